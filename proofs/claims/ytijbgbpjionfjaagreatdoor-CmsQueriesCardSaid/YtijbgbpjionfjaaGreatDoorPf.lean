/- Parts of the proof: Rat2, DivN, Nat8, Nat9, Nat10, Rat3, RatQ, Rat4, Rat5, Pow1, Pow2, Float3, Rise1, Val1, Val2, Reg5, ChainG, ChainH, AmLaw, Reg6, Val3, Rise2, ValM, Cms4, Cms5, Cms6, Cms7, AmLaw2, AmLaw3, AmLB, Carr4, CmsD, CmsO, DecM. -/
import Derived.Test.YtijbgbpjionfjaaGreatDoorPe
set_option linter.unusedVariables false
set_option linter.unusedSimpArgs false
set_option maxRecDepth 100000
namespace Go.Proofs.YtijbgbpjionfjaaGreatDoor.Am
section
open Go.RowKit
theorem o_8x {x n m : Nat} (h : x < 2 ^ n) (hm : n ≤ 64 * m) : size x ≤ m := by
 apply o_1l (o_10 x)
 rw [o_1, show (18446744073709551616 : Nat) = 2 ^ 64 by rfl, ← Nat.pow_mul]
 exact Nat.lt_of_lt_of_le h (Nat.pow_le_pow_right (by omega) hm)
def splitW (y : Nat) : List Nat → List Nat × Nat
 | [] => ([], 0)
 | x :: l => (((splitW y l).2 * 18446744073709551616 + x) / y :: (splitW y l).1, ((splitW y l).2 * 18446744073709551616 + x) % y)
theorem o_28 {y : Nat} (h0 : 0 < y) : ∀ {l : List Nat}, small l → wval l = wval (splitW y l).1 * y + (splitW y l).2 ∧ (splitW y l).2 < y ∧ small (splitW y l).1 ∧ (splitW y l).1.length = l.length
 | [], _ => ⟨by simp [splitW, wval], h0, by simp [small, splitW], rfl⟩
 | x :: l, h => by
  have hx := h x (by simp)
  obtain ⟨h1, h2, h3, h4⟩ := o_28 h0 (l := l) (fun z hz => h z (by simp [hz]))
  simp only [splitW, wval, List.length_cons, h4]
  generalize splitW y l = s at *
  obtain ⟨Q, r⟩ := s
  simp only at *
  have hd := Nat.div_add_mod (r * 18446744073709551616 + x) y
  have hm := Nat.mod_lt (r * 18446744073709551616 + x) h0
  have hq : (r * 18446744073709551616 + x) / y < 18446744073709551616 := by
   rw [Nat.div_lt_iff_lt_mul h0]
   have : (r + 1) * 18446744073709551616 ≤ y * 18446744073709551616 := Nat.mul_le_mul_right _ h2
   omega
  refine ⟨?_, hm, ?_, trivial⟩
  ·rw [Nat.mul_comm y] at hd
   have e : 18446744073709551616 * (wval Q * y + r) = 18446744073709551616 * wval Q * y + r * 18446744073709551616 := by rw [Nat.mul_add, Nat.mul_assoc, Nat.mul_comm r]
   rw [h1, e, Nat.add_mul]
   obtain ⟨z, hz⟩ : ∃ z, z = (r * 18446744073709551616 + x) % y := ⟨_, rfl⟩
   obtain ⟨z2, hz2⟩ : ∃ z, z = (r * 18446744073709551616 + x) / y * y := ⟨_, rfl⟩
   obtain ⟨z3, hz3⟩ : ∃ z, z = 18446744073709551616 * wval Q * y := ⟨_, rfl⟩
   rw [← hz, ← hz2] at hd
   rw [← hz, ← hz2, ← hz3]
   omega
  ·intro z hz
   rcases List.mem_cons.1 hz with rfl | hz
   ·exact hq
   ·exact h3 z hz

theorem o_x4 {y : Nat} (h0 : 0 < y) {l : List Nat} (h : small l) : wval (splitW y l).1 = wval l / y ∧ (splitW y l).2 = wval l % y := by
 obtain ⟨h1, h2, _, _⟩ := o_28 h0 h
 rw [h1]
 constructor
 ·rw [Nat.mul_comm, Nat.mul_add_div h0, Nat.div_eq_of_lt h2, Nat.add_zero]
 ·rw [Nat.mul_comm, Nat.mul_add_mod]; exact (Nat.mod_eq_of_lt h2).symm

def splitC (y : Nat) (ws : List Nat) (k : Nat) : List V := U (List.replicate k 0 ++ (splitW y (ws.drop k)).1)
theorem o_x5 {y : Nat} (h0 : 0 < y) {ws : List Nat} (hs : small ws) {k : Nat} (hk : k ≤ ws.length) : (splitC y ws k).length = ws.length := by
 have := (o_28 h0 (l := ws.drop k) (fun x hx => hs x (List.mem_of_mem_drop hx))).2.2.2
 simp [splitC, U, this]; omega

set_option maxHeartbeats 2000000 in
theorem o_x6 (ws : List Nat) (y : Nat) (hs : small ws) (hn : ws.length ≤ 1000000) (h0 : 0 < y) (hy : y < 18446744073709551616) : Eqn Tryz.prog o_6k [.d (W ws), .d (.int .u64 y)] [] (.tup [.d (W (splitW y ws).1), .d (.int .u64 (splitW y ws).2)]) [] := by
 refine Eqn.pure o_ek (o_5 _ _) ?_
 simp only [o_6l, W]
 have hlen := (o_28 h0 hs).2.2.2
 rw [hlen]
 have hlowC : ∀ k, V.lowl 1 (splitC y ws k) = true := fun k => o_45 1 _
 refine G0 ?_; try with_reducible exact tt
 rw [show List.replicate ws.length (V.d (.int .u64 0)) = splitC y ws ws.length by simp [splitC, U, splitW]]
 refine AW.loopT (α := Nat) 1 (fun k => [(8, .d (.int .i64 ((k : Int) - 1))), (7, .d (.int .u64 ((splitW y (ws.drop k)).2 : Nat)))]) (fun k => [(0, ⟨28, splitC y ws k⟩)]) (fun k => k ≤ ws.length) (fun k => k) ws.length ?_ ?_ (Nat.le_refl _) ?_ ?_ ?_
 ·simp
 ·simp
 ·simp [splitW]
 ·simp [hlowC]
 rintro k hk
 simp
 cases k with
 | zero =>
  refine G0 ?_; try with_reducible exact tt
  refine AW.cond rfl (fun h => ?_) (fun h => ?_)
  ·simp at h
  refine AW.exit ?_
  (try (simp -implicitDefEqProofs; try simp (disch := omega) only [w64, wu64]))
  rw [show splitC y ws 0 = ((splitW y ws).1.map fun x : Nat => D.int .u64 x).map V.d by simp [splitC, U]]
  refine AW.freeze 0 1 ⟨28, _⟩ ((splitW y ws).1.map fun x : Nat => .int .u64 x) (by rfl) (by rfl) ?_
  simp [← hlen, List.take_of_length_le]
  refine G0 ?_; try with_reducible exact tt
 | succ k =>
  have hk' : k < ws.length := hk
  have hdrop : ws.drop k = ws[k] :: ws.drop (k + 1) := List.drop_eq_getElem_cons hk'
  obtain ⟨i1, i2, i3, i4⟩ := o_28 h0 (l := ws.drop (k + 1)) (fun x hx => hs x (List.mem_of_mem_drop hx))
  have hl := o_x5 h0 hs hk
  have hset : (splitC y ws (k + 1)).set k (.d (.int .u64 (((splitW y (ws.drop (k + 1))).2 * 18446744073709551616 + ws[k]) / y : Nat))) = splitC y ws k := by
   rw [splitC, splitC, hdrop, splitW, U, U, List.replicate_succ', List.append_assoc, List.map_append, List.map_append, List.set_append_right _ _ (by simp)]
   simp
  have hrest : (splitW y (ws.drop k)).2 = ((splitW y (ws.drop (k + 1))).2 * 18446744073709551616 + ws[k]) % y := by rw [hdrop, splitW]
  have hx : ws[k] < 18446744073709551616 := hs _ (List.getElem_mem _)
  have hdv := o_l5 (splitW y (ws.drop (k + 1))).2 ws[k] y i2 hx hy
  rw [← hrest] at hdv
  generalize (splitW y (ws.drop (k + 1))).2 = r at *
  have e0 : (0 : Int) ≤ (k : Int) + 1 - 1 := by omega
  have e1 : (k : Int) + 1 - 1 = k := by omega
  have e2 : (((k : Int) + 1 - 1)).toNat = k := by omega
  have e3 : IntKind.i64.wrap ((k : Int) - 1) = (k : Int) - 1 := w64 (by omega) (by omega)
  generalize hxk : ws[k] = x at *
  generalize hqd : (r * 18446744073709551616 + x) / y = q at *
  generalize hr'' : (splitW y (ws.drop k)).2 = r' at *
  refine G1 (fs e0 (fs e1 (fs e2 hk'))) ?_; try with_reducible exact tt
  refine AW.cond rfl (fun h => ?_) (fun h => ?_)
  ·refine G1 (fs e0 (fs e1 (fs e2 (fs hk' hxk)))) ?_; try with_reducible exact tt
   refine CallS.pu (hdv) (R1 (fs e1 (fs hl (fs hk' (fs hset e3)))) ?_); try with_reducible exact tt
   refine ⟨k, by omega, by omega, ?_⟩
   rw [hr'']
   simp [hlowC]
  ·simp at h

theorem o_x7 (a b : Nat) (ha : size a ≤ 1000000) (h0 : 0 < b) (hb : b < 18446744073709551616 ∨ a < b) (hbs : size b ≤ 1000000) : Eqn Tryz.prog o_7a [.d (.agg [natW a]), .d (.agg [natW b])] [] (.tup [.d (.agg [natW (a / b)]), .d (.agg [natW (a % b)]), .d (.int .i64 0)]) [] := by
 refine Eqn.pure o_hp (o_2s _ _ _) ?_
 simp only [o_7b]
 refine G0 ?_; try with_reducible exact tt
 refine CallS.pu (o_o b) (R0 ?_); try with_reducible exact tt
 have hz : (b == 0) = false := by simp; omega
 refine AW.cond rfl (fun h => ?_) (fun h => ?_)
 ·simp [hz] at h
 refine G0 ?_; try with_reducible exact tt
 refine CallS.pu (o_s a b ha hbs) (R0 ?_); try with_reducible exact tt
 refine AW.cond rfl (fun h => ?_) (fun h => ?_)
 ·have hlt : a < b := by simpa [o_1e] using h
  rw [Nat.div_eq_of_lt hlt, Nat.mod_eq_of_lt hlt]
  refine G0 ?_; try with_reducible exact tt
  refine CallS.pu (o_h (words a) (o_4 a) (by unfold size at ha; omega)) (R0 ?_); try with_reducible exact tt
  rw [o_1]
  exact Sub1.tup (Subs.cons (Sub1.nat0) (Subs.refl _))
 ·have hge : ¬ a < b := fun hlt => by simp [o_1e, hlt] at h
  have hb1 : b < 18446744073709551616 := by omega
  have e' : natW b = .sl 1 [.int .u64 b] := by rw [natW, o_7s (by omega) hb1]; rfl
  have hsp := o_x6 (words a) b (o_4 a) (by unfold size at ha; omega) h0 hb1
  obtain ⟨q1, q2, q3, q4⟩ := o_28 h0 (o_4 a)
  have hd := o_x4 h0 (o_4 a)
  rw [o_1] at hd
  have htr := o_11 (splitW b (words a)).1 q3 (by unfold size at ha; omega)
  rw [hd.1] at htr
  rw [hd.2] at hsp q2
  rw [show W (words a) = natW a from rfl] at hsp
  generalize (splitW b (words a)).1 = qs at *
  refine G1 e' ?_; try with_reducible exact tt
  refine AW.cond rfl (fun h => ?_) (fun h => ?_)
  ·refine G1 e' ?_; try with_reducible exact tt
   refine CallS.pu (hsp) (R0 ?_); try with_reducible exact tt
   refine CallS.pu (htr) (R0 ?_); try with_reducible exact tt
   refine CallS.pf 4 1 ⟨28, _⟩ [.int .u64 (a % b : Nat)] (o_h [a % b] (o_i (by omega)) (by simp)) (by first | rfl | (simp; done)) (R0 ?_); try with_reducible exact tt
   simp [wval]
  ·simp [e'] at h

theorem o_x8 (k : Nat) (hk : k ≤ 8192) : size (2 ^ k) ≤ 129 := o_8x (n := k + 1) (Nat.pow_lt_pow_right (by omega) (Nat.lt_succ_self _)) (by omega)
end
end Go.Proofs.YtijbgbpjionfjaaGreatDoor.Am
namespace Go.Proofs.YtijbgbpjionfjaaGreatDoor.Am
section
def wordsN : Nat → Nat → List Nat
 | 0, _ => []
 | m + 1, x => x % 18446744073709551616 :: wordsN m (x / 18446744073709551616)
theorem o_2z : ∀ m x, (wordsN m x).length = m
 | 0, _ => rfl
 | m + 1, x => by simp [wordsN, o_2z m]
theorem o_8y : ∀ m x, small (wordsN m x)
 | 0, _ => by simp [wordsN, small]
 | m + 1, x => by
  intro y hy
  rw [wordsN, List.mem_cons] at hy
  rcases hy with rfl | hy
  ·omega
  ·exact o_8y m _ y hy
theorem o_51 : ∀ m x, x < 18446744073709551616 ^ m → wval (wordsN m x) = x
 | 0, x, h => by simp at h; simp [wordsN, wval, h]
 | m + 1, x, h => by
  rw [wordsN, wval, o_51 m _ (by rw [Nat.pow_succ] at h; rw [Nat.div_lt_iff_lt_mul (by decide)]; exact h)]
  omega
theorem o_l7 : ∀ {l : List Nat}, small l → wordsN l.length (wval l) = l
 | [], _ => rfl
 | x :: l, h => by
  have hx := h x (by simp)
  have hl : small l := fun y hy => h y (by simp [hy])
  rw [List.length_cons, wordsN, wval]
  congr 1
  ·omega
  ·rw [show (x + 18446744073709551616 * wval l) / 18446744073709551616 = wval l by omega]; exact o_l7 hl
theorem o_8z {l : List Nat} {m x : Nat} (h : small l) (hl : l.length = m) (hv : wval l = x) : l = wordsN m x := by rw [← hl, ← hv, o_l7 h]

def ovr (ws : List Nat) (k : Nat) (l : List Nat) : List Nat := ws.take k ++ (l ++ ws.drop (k + l.length))
theorem o_29 {ws : List Nat} {k : Nat} {l : List Nat} (h : k + l.length ≤ ws.length) : (ovr ws k l).length = ws.length := by simp [ovr]; omega
theorem o_l8 {ws : List Nat} {k : Nat} {l : List Nat} (h : small ws) (hl : small l) : small (ovr ws k l) := by
 intro x hx
 simp only [ovr, List.mem_append] at hx
 rcases hx with hx | hx | hx
 ·exact h x (List.mem_of_mem_take hx)
 ·exact hl x hx
 ·exact h x (List.mem_of_mem_drop hx)
theorem o_l9 (ws : List Nat) (k : Nat) : ovr ws k [] = ws := by simp [ovr]
theorem o_la {ws : List Nat} {k : Nat} {l : List Nat} (h : k + l.length < ws.length) : (ovr ws k l).getD (k + l.length) 0 = ws.getD (k + l.length) 0 := by
 simp only [ovr, List.getD_eq_getElem?_getD]
 congr 1
 rw [List.getElem?_append_right (by rw [List.length_take]; omega), List.length_take, Nat.min_eq_left (by omega), List.getElem?_append_right (by omega), List.getElem?_drop]
 congr 1; omega
theorem o_lb {ws : List Nat} {k : Nat} {l : List Nat} (h : k + l.length < ws.length) (v : Nat) : (ovr ws k l).set (k + l.length) v = ovr ws k (l ++ [v]) := by
 have e : ws.drop (k + l.length) = ws.getD (k + l.length) 0 :: ws.drop (k + (l.length + 1)) := by
  rw [List.getD_eq_getElem?_getD, List.getElem?_eq_getElem h, Option.getD_some, ← Nat.add_assoc]
  exact List.drop_eq_getElem_cons h
 simp only [ovr]
 rw [List.set_append_right _ _ (by rw [List.length_take]; omega), List.length_take, Nat.min_eq_left (by omega), show k + l.length - k = l.length by omega, List.set_append_right _ _ (by omega), Nat.sub_self, e]
 simp
theorem o_x9 {ws : List Nat} {k : Nat} {l r : List Nat} (h : k + l.length ≤ ws.length) (hl : l.length ≤ r.length) : ovr (ovr ws k l) k r = ovr ws k r := by
 simp only [ovr]
 have h1 : (ws.take k).length = k := by rw [List.length_take]; omega
 rw [List.take_append_of_le_length (by omega), List.take_of_length_le (by omega)]
 congr 2
 rw [List.drop_append, List.drop_eq_nil_of_le (by omega), List.nil_append, h1, List.drop_append, List.drop_eq_nil_of_le (by omega), List.nil_append, List.drop_drop]
 congr 1; omega
theorem o_lc {ws : List Nat} {k : Nat} {l : List Nat} (h : k + l.length ≤ ws.length) : ((ovr ws k l).drop k).take l.length = l := by
 have h1 : (ws.take k).length = k := by rw [List.length_take]; omega
 simp only [ovr]
 rw [List.drop_append, List.drop_eq_nil_of_le (by omega), List.nil_append, h1, Nat.sub_self, List.drop_zero, List.take_append_of_le_length (by omega), List.take_of_length_le (by omega)]
theorem o_90 {ws : List Nat} {k n i : Nat} (h : i < n) : ((ws.drop k).take n).getD i 0 = ws.getD (k + i) 0 := by
 simp only [List.getD_eq_getElem?_getD, List.getElem?_take, if_pos h, List.getElem?_drop]
theorem o_ld {ws : List Nat} {k n : Nat} (h : k + n ≤ ws.length) : ((ws.drop k).take n).length = n := by simp; omega
theorem o_le {ws : List Nat} (h : small ws) (k : Nat) : small (ws.drop k) := fun x hx => h x (List.mem_of_mem_drop hx)
theorem o_30 {l : List Nat} (h : small l) {v : Nat} (hv : v < 18446744073709551616) : small (l ++ [v]) := by
 intro x hx
 rw [List.mem_append, List.mem_singleton] at hx
 rcases hx with hx | rfl
 ·exact h x hx
 ·exact hv
theorem o_31 (l : List Nat) (v : Nat) : wval (l ++ [v]) = wval l + 18446744073709551616 ^ l.length * v := by
 rw [o_z]; simp [wval]
theorem o_91 : small [] := by simp [small]

theorem o_xa {l0 g D0 U0 p bo c x y lo hi l2 k2 nb z : Nat} (hv : l0 + g * D0 = U0 + p * (bo + c)) (hyg : y * g = hi * 18446744073709551616 + lo) (h1 : lo + c = l2 + 18446744073709551616 * k2) (h2 : x + 18446744073709551616 * nb = z + l2 + bo) :
  l0 + p * z + g * (D0 + p * y) = U0 + p * x + p * 18446744073709551616 * (nb + (hi + k2)) := by
 have e1 : p * x + 18446744073709551616 * (p * nb) = p * z + p * l2 + p * bo := by
  have := congrArg (p * ·) h2
  simp only [Nat.mul_add] at this
  rw [← Nat.mul_assoc, Nat.mul_comm p 18446744073709551616, Nat.mul_assoc] at this
  exact this
 have e2 : p * lo + p * c = p * l2 + 18446744073709551616 * (p * k2) := by
  have := congrArg (p * ·) h1
  simp only [Nat.mul_add] at this
  rw [← Nat.mul_assoc p 18446744073709551616, Nat.mul_comm p 18446744073709551616, Nat.mul_assoc 18446744073709551616] at this
  exact this
 have e3 : g * (p * y) = 18446744073709551616 * (p * hi) + p * lo := by
  have := congrArg (p * ·) hyg
  simp only [Nat.mul_add] at this
  rw [← Nat.mul_assoc p hi, Nat.mul_comm (p * hi), ← Nat.mul_assoc p y g, Nat.mul_comm (p * y) g] at this
  exact this
 have e4 : p * 18446744073709551616 * (nb + (hi + k2)) = 18446744073709551616 * (p * nb) + 18446744073709551616 * (p * hi) + 18446744073709551616 * (p * k2) := by
  rw [Nat.mul_comm p, Nat.mul_assoc, Nat.mul_add, Nat.mul_add, Nat.mul_add, Nat.mul_add]; omega
 rw [Nat.mul_add, e3, e4]
 rw [Nat.mul_add] at hv
 omega
theorem o_92 {ws : List Nat} {n : Nat} (h : small ws) (hl : ws.length = n) : wval ws < 18446744073709551616 ^ n := by rw [← hl]; exact o_7 h
theorem o_xb {u : List Nat} {n z c b x nb gD wl Un : Nat} {l' : List Nat} (h1 : wval l' = wl + 18446744073709551616 ^ n * z) (hv : wl + gD = Un + 18446744073709551616 ^ n * (b + c)) (hux : wval u = Un + 18446744073709551616 ^ n * x) (hzb : x + 18446744073709551616 * nb = z + c + b) (hnb : nb ≤ 1) (hs : small l') (hl : l'.length = n + 1) (hus : small u) (hul : u.length = n + 1) :
  nb = (if wval u < gD then 1 else 0) ∧ l' = wordsN (n + 1) (wval u + (if wval u < gD then 18446744073709551616 ^ (n + 1) else 0) - gD) := by
 have e1 : wval l' + gD = wval u + 18446744073709551616 ^ (n + 1) * nb := by
  have := congrArg (18446744073709551616 ^ n * ·) hzb
  simp only [Nat.mul_add] at this
  rw [← Nat.mul_assoc, ← Nat.pow_succ] at this
  rw [Nat.mul_add] at hv
  simp only [Nat.succ_eq_add_one] at this
  omega
 have hlt := o_92 hs hl
 have hult := o_92 hus hul
 generalize 18446744073709551616 ^ (n + 1) = M at *
 have hc : nb = 0 ∨ nb = 1 := by omega
 rcases hc with rfl | rfl
 ·rw [if_neg (by omega), if_neg (by omega)]
  exact ⟨rfl, o_8z hs hl (by omega)⟩
 ·rw [if_pos (by omega), if_pos (by omega)]
  exact ⟨rfl, o_8z hs hl (by omega)⟩
theorem o_xc {u : List Nat} {m gD : Nat} (hus : small u) (hul : u.length = m) (hg : gD ≤ wval u + 18446744073709551616 ^ m) : wval (wordsN m (wval u + (if wval u < gD then 18446744073709551616 ^ m else 0) - gD)) + gD = wval u + 18446744073709551616 ^ m * (if wval u < gD then 1 else 0) := by
 have hult := o_92 hus hul
 by_cases h : wval u < gD
 ·rw [if_pos h, if_pos h, o_51 _ _ (by omega)]; omega
 ·rw [if_neg h, if_neg h, o_51 _ _ (by omega)]; omega
theorem o_lf {ws : List Nat} {k : Nat} {l : List Nat} {j : Nat} (h : k + l.length ≤ ws.length) (hj : j < l.length) : (ovr ws k l).getD (k + j) 0 = l.getD j 0 := by
 have := o_lc h
 rw [← o_90 (n := l.length) hj, this]
theorem o_xd {wr p c wl wd x y z nc : Nat} (hv : wr + p * c = wl + wd) (h : x + y + c = z + 18446744073709551616 * nc) : wr + p * z + p * 18446744073709551616 * nc = wl + p * x + (wd + p * y) := by
 have := congrArg (p * ·) h
 simp only [Nat.mul_add] at this
 rw [← Nat.mul_assoc] at this
 omega
theorem o_xe {wr p c wl wd wL x v nv : Nat} (hv : wr + p * c = wl + wd) (hl : wL = wl + p * x) (h : x + c = v + 18446744073709551616 * nv) : wL + wd = wr + p * v + p * 18446744073709551616 * nv := by
 have := congrArg (p * ·) h
 simp only [Nat.mul_add] at this
 rw [← Nat.mul_assoc] at this
 omega
theorem o_lg {d : List Nat} {n : Nat} (_ : n < d.length) : d.getD n 0 * 18446744073709551616 ^ n ≤ wval d := by
 have h1 := o_8 d n
 have h2 : wval d = wval (d.take (n + 1)) + 18446744073709551616 ^ (d.take (n + 1)).length * wval (d.drop (n + 1)) := by rw [← o_z, List.take_append_drop]
 rw [h2, h1, Nat.mul_comm]
 omega
theorem o_xf {u : List Nat} {n m : Nat} (hs : small u) (hl : u.length = m + 1) (hm : m = n + 1) : wval u / 18446744073709551616 ^ n = u.getD m 0 * 18446744073709551616 + u.getD n 0 := by
 have h1 := o_8 u n
 have h2 := o_8 u m
 rw [List.take_of_length_le (by omega)] at h2
 have h3 := o_2q hs n
 have hp : 0 < 18446744073709551616 ^ n := Nat.pow_pos (by decide)
 rw [h2, hm, h1, Nat.pow_succ, Nat.mul_assoc, Nat.add_assoc, ← Nat.mul_add, Nat.add_mul_div_left _ _ hp, Nat.div_eq_of_lt h3, Nat.zero_add, Nat.mul_comm 18446744073709551616]
 omega
theorem o_xg {U0 W1 Bk D S Q BQ : Nat} (h : U0 = W1 + Bk * S + D * BQ) (hq : BQ = Bk * 18446744073709551616 * Q) : U0 = W1 + Bk * (S % D) + D * (Bk * (S / D + 18446744073709551616 * Q)) := by
 have h1 := Nat.div_add_mod S D
 rw [h, hq]
 have e1 : Bk * S = Bk * (S % D) + D * (Bk * (S / D)) := by
  conv => lhs; rw [← h1]
  rw [Nat.mul_add, Nat.mul_left_comm, Nat.add_comm]
 rw [e1, Nat.mul_add Bk, Nat.mul_add D, Nat.mul_assoc Bk]
 omega
theorem o_93 {ws : List Nat} (k n : Nat) (h : k + n ≤ ws.length) : wval (ws.take (k + n)) = wval (ws.take k) + 18446744073709551616 ^ k * wval ((ws.drop k).take n) := by
 have e : ws.take (k + n) = ws.take k ++ (ws.drop k).take n := by rw [List.take_add]
 rw [e, o_z, List.length_take, Nat.min_eq_left (by omega)]
theorem o_xh {n x : Nat} (h : x < 18446744073709551616 ^ n) : (wordsN (n + 1) x).take n = wordsN n x := by
 have : ∀ (n x : Nat), (wordsN (n + 1) x).take n = wordsN n x := by
  intro n
  induction n with
  | zero => intro x; simp [wordsN]
  | succ n ih => intro x; rw [wordsN, List.take_succ_cons, ih, wordsN]
 exact this n x
theorem o_xi {ws : List Nat} {k : Nat} {l : List Nat} (h : k ≤ ws.length) : (ovr ws k l).take k = ws.take k := by
 simp only [ovr]
 rw [List.take_append_of_le_length (by rw [List.length_take]; omega), List.take_take, Nat.min_self]
theorem o_xj {ws : List Nat} {k m : Nat} (h : k < ws.length) : wval ((ws.drop k).take (m + 1)) = ws.getD k 0 + 18446744073709551616 * wval ((ws.drop (k + 1)).take m) := by
 rw [List.drop_eq_getElem_cons h, List.take_succ_cons, wval, List.getD_eq_getElem?_getD, List.getElem?_eq_getElem h]; rfl
theorem o_xk {ws : List Nat} {k n x : Nat} (h : k + (n + 1) ≤ ws.length) (hx : x < 18446744073709551616 ^ n) : wval (((ovr ws k (wordsN (n + 1) x)).drop k).take n) = x := by
 have h1 := o_lc (ws := ws) (k := k) (l := wordsN (n + 1) x) (by rw [o_2z]; exact h)
 rw [o_2z] at h1
 have h2 : ((ovr ws k (wordsN (n + 1) x)).drop k).take n = (((ovr ws k (wordsN (n + 1) x)).drop k).take (n + 1)).take n := by rw [List.take_take, Nat.min_eq_left (by omega)]
 rw [h2, h1, o_xh hx, o_51 _ _ hx]
theorem o_xl {k : Nat} {q : List Nat} (v : Nat) : (List.replicate (k + 1) 0 ++ q).set k v = List.replicate k 0 ++ v :: q := by
 rw [List.replicate_succ', List.append_assoc, List.set_append_right _ _ (by simp)]
 simp
theorem o_xm {Bw : List Nat} {s : Nat} (hb : wval Bw * 2 ^ s < 18446744073709551616 ^ Bw.length) : wval ((movedL s 0 Bw).take Bw.length) = wval Bw * 2 ^ s := by
 have h1 := o_7n s Bw 0
 have h2 := o_8 (movedL s 0 Bw) Bw.length
 rw [List.take_of_length_le (by rw [o_1d]; omega), h1, Nat.add_zero] at h2
 rcases Nat.eq_zero_or_pos ((movedL s 0 Bw).getD Bw.length 0) with h | h
 ·rw [h, Nat.mul_zero, Nat.add_zero] at h2; exact h2.symm
 ·exfalso
  have : 18446744073709551616 ^ Bw.length * 1 ≤ 18446744073709551616 ^ Bw.length * (movedL s 0 Bw).getD Bw.length 0 := Nat.mul_le_mul_left _ h
  omega
end
end Go.Proofs.YtijbgbpjionfjaaGreatDoor.Am
namespace Go.Proofs.YtijbgbpjionfjaaGreatDoor.Am
section
open Go.RowKit
theorem o_lh (θ : Nat → Nat) (ws : List Nat) : V.rens θ (uW ws) = uW ws := by
 have h := o_3j θ (ws.map fun x : Nat => D.int .u64 x)
 rw [List.map_map] at h
 exact h
theorem o_1p (ws : List Nat) : plainL (uW ws) := ⟨o_d 0 ws, fun θ => o_lh θ ws⟩

theorem o_xn {y g hi lo : Nat} (hy : y < 18446744073709551616) (hg : g < 18446744073709551616) (h1 : hi = y * g / 18446744073709551616) (h2 : lo = y * g % 18446744073709551616) : y * g = hi * 18446744073709551616 + lo ∧ lo < 18446744073709551616 ∧ hi + 1 < 18446744073709551616 := by
 have hp : y * g ≤ 18446744073709551615 * 18446744073709551615 := Nat.mul_le_mul (by omega) (by omega)
 generalize y * g = p at *
 omega

def takeR (ws d : List Nat) (k g : Nat) : List Nat := wordsN (d.length + 1) (wval ((ws.drop k).take (d.length + 1)) + (if wval ((ws.drop k).take (d.length + 1)) < g * wval d then 18446744073709551616 ^ (d.length + 1) else 0) - g * wval d)
set_option maxHeartbeats 4000000 in
theorem o_xo (ws d : List Nat) (k g : Nat) (hs : small ws) (hd : small d) (hk : k + d.length + 1 ≤ ws.length) (hn : ws.length ≤ 1000000) (hg : g < 18446744073709551616) :
  Eqn Tryz.prog o_7d [.row 0 k (d.length + 1), .d (W d), .d (.int .u64 g)] [⟨28, uW ws⟩] (.d (.int .i64 (if wval ((ws.drop k).take (d.length + 1)) < g * wval d then 1 else 0))) [⟨28, uW (ovr ws k (takeR ws d k g))⟩] := by
 refine Eqn.obj1 o_s0 Plain.ok (o_1p _) ?_
 obtain ⟨u, hu⟩ : ∃ u, u = (ws.drop k).take (d.length + 1) := ⟨_, rfl⟩
 have hul : u.length = d.length + 1 := by rw [hu]; exact o_ld (by omega)
 have hus : small u := by rw [hu]; exact (o_le hs k).take _
 have hug : ∀ i, i < d.length + 1 → u.getD i 0 = ws.getD (k + i) 0 := fun i hi => by rw [hu]; exact o_90 hi
 rw [takeR, ← hu]
 simp only [o_hx, W]
 refine G0 ?_; try with_reducible exact tt
 refine AW.loopT (α := Nat × Nat × Nat × List Nat) 1 (fun s => [(17, .d (.int .i64 (s.1 : Int))), (7, .d (.int .u64 (s.2.1 : Int))), (8, .d (.int .u64 (s.2.2.1 : Int)))]) (fun s => [(0, ⟨28, uW (ovr ws k s.2.2.2)⟩)]) (fun s => s.1 ≤ d.length ∧ s.2.1 < 18446744073709551616 ∧ s.2.2.1 ≤ 1 ∧ s.2.2.2.length = s.1 ∧ small s.2.2.2 ∧ wval s.2.2.2 + g * wval (d.take s.1) = wval (u.take s.1) + 18446744073709551616 ^ s.1 * (s.2.2.1 + s.2.1)) (fun s => d.length - s.1) (0, 0, 0, []) ?_ ?_ ⟨Nat.zero_le _, by simp, by simp, rfl, o_91, by simp [wval]⟩ ?_ ?_ ?_
 ·simp
 ·simp
 ·simp
 ·simp [o_l9, o_d]
 rintro ⟨i, c, b, l⟩ ⟨hi, hc, hb, hl, hsl, hv⟩
 simp only at hi hc hb hl hsl hv
 simp
 have hol : (uW (ovr ws k l)).length = ws.length := by rw [o_1g, o_29 (by omega)]
 have hget := o_27 (ws := ovr ws k l) (j := k + i) (by rw [← o_1g, hol]; omega)
 have hnx := o_la (ws := ws) (k := k) (l := l) (by omega)
 rw [hl] at hnx
 rw [hnx, ← hug i (by omega)] at hget
 have hx := hus.getD i
 have hset : ∀ v : Nat, (uW (ovr ws k l)).set (k + i) (.d (.int .u64 v)) = uW (ovr ws k (l ++ [v])) := fun v => by rw [o_50, ← hl, o_lb (by omega)]
 have hki : ((k : Int) + i).toNat = k + i := by omega
 obtain ⟨x, hxd⟩ : ∃ x, x = u.getD i 0 := ⟨_, rfl⟩
 rw [← hxd] at hget hx
 by_cases hin : i < d.length
 ·have hin' : (i : Int) < d.length := by omega
  have hy : d[i] < 18446744073709551616 := hd _ (List.getElem_mem _)
  have hyd : d[i] = d.getD i 0 := o_9 hin
  have e2 : IntKind.i64.wrap ((i : Int) + 1) = (i : Int) + 1 := w64 (by omega) (by omega)
  refine G1 (fs hin hin') ?_; try with_reducible exact tt
  refine AW.cond rfl (fun h => ?_) (fun h => ?_)
  ·clear h
   refine G1 (fs hin hin') ?_; try with_reducible exact tt
   generalize d[i] = y at hy hyd ⊢
   have hmul := o_8s y g hy hg
   obtain ⟨hi', hhi⟩ : ∃ q, q = y * g / 18446744073709551616 := ⟨_, rfl⟩
   obtain ⟨lo, hlo⟩ : ∃ q, q = y * g % 18446744073709551616 := ⟨_, rfl⟩
   rw [← hhi, ← hlo] at hmul
   obtain ⟨hyg, hl0, hh0⟩ := o_xn hy hg hhi hlo
   clear hhi hlo
   obtain ⟨l2, k2, hl1, hll2, hk2⟩ : ∃ l2 k2 : Nat, lo + c + 0 = l2 + 18446744073709551616 * k2 ∧ l2 < 18446744073709551616 ∧ k2 ≤ 1 := ⟨(lo + c) % 18446744073709551616, (lo + c) / 18446744073709551616, by omega, by omega, by omega⟩
   obtain ⟨z, nb, hzb, hz, hnb⟩ : ∃ z nb : Nat, x + 18446744073709551616 * nb = z + l2 + b ∧ z < 18446744073709551616 ∧ nb ≤ 1 := by
    by_cases h : l2 + b ≤ x
    ·exact ⟨x - l2 - b, 0, by omega, by omega, by omega⟩
    ·exact ⟨x + 18446744073709551616 - l2 - b, 1, by omega, by omega, by omega⟩
   have w1 : IntKind.u64.wrap ((hi' : Int) + k2) = ((hi' + k2 : Nat) : Int) := wu64 (by omega) (by omega)
   have hround := o_xa hv hyg (by omega : lo + c = l2 + 18446744073709551616 * k2) hzb
   have ht : g * wval (d.take (i + 1)) = g * (wval (d.take i) + 18446744073709551616 ^ i * y) := by rw [o_8, ← hyd]
   have hut : wval (u.take (i + 1)) = wval (u.take i) + 18446744073709551616 ^ i * x := by rw [o_8, ← hxd]
   have hsn : wval (l ++ [z]) = wval l + 18446744073709551616 ^ i * z := by rw [o_31, hl]
   rw [← hsn, ← ht, ← hut, ← Nat.pow_succ] at hround
   have hhk : hi' + k2 < 18446744073709551616 := by omega
   refine CallS.pu (hmul) (R1 (fs hol (fs hget hki)) ?_); try with_reducible exact tt
   generalize hi' + k2 = hk at *
   refine CallS.pu (o_20 lo c 0 l2 k2 hl0 hc (by omega) hll2 hl1) (R1 (fs w1 (fs hol (fs hget hki))) ?_); try with_reducible exact tt
   refine CallS.pu (o_44 x l2 b z nb hx hll2 hb hz (by omega)) (R1 (fs hol (fs hki (fs hset e2))) ?_); try with_reducible exact tt
   refine ⟨i + 1, hk, nb, l ++ [z], ⟨hin, hhk, hnb, by simp [hl], o_30 hsl hz, hround⟩, by omega, by simp, ?_⟩
   exact ⟨Subs.refl _, o_d _ _⟩
  ·simp [hin, hin'] at h
 ·have h2 : i = d.length := by omega
  subst h2
  rw [List.take_length] at hv
  obtain ⟨z, nb, hzb, hz, hnb⟩ : ∃ z nb : Nat, x + 18446744073709551616 * nb = z + c + b ∧ z < 18446744073709551616 ∧ nb ≤ 1 := by
   by_cases h : c + b ≤ x
   ·exact ⟨x - c - b, 0, by omega, by omega, by omega⟩
   ·exact ⟨x + 18446744073709551616 - c - b, 1, by omega, by omega, by omega⟩
  refine G0 ?_; try with_reducible exact tt
  refine AW.cond rfl (fun h => ?_) (fun h => ?_)
  ·simp at h
  refine AW.exit ?_
  (try (simp -implicitDefEqProofs; try simp (disch := omega) only [w64, wu64]))
  refine G1 (fs hol (fs hget hki)) ?_; try with_reducible exact tt
  refine CallS.pu (o_44 x c b z nb hx hc hb hz (by omega)) (R1 (fs hol (fs hki hset)) ?_); try with_reducible exact tt
  have hux : wval u = wval (u.take d.length) + 18446744073709551616 ^ d.length * x := by
   rw [hxd, ← o_8, List.take_of_length_le (by omega)]
  obtain ⟨hnb', hR⟩ := o_xb (n := d.length) (by rw [o_31, hl]) hv hux hzb hnb (o_30 hsl hz) (by simp [hl]) hus hul
  rw [← hR]
  refine ⟨Sub1.int ?_, Subs.refl _⟩
  rw [hnb']
  split <;> rfl
end
end Go.Proofs.YtijbgbpjionfjaaGreatDoor.Am
namespace Go.Proofs.YtijbgbpjionfjaaGreatDoor.Am
section
open Go.RowKit
set_option maxHeartbeats 4000000 in
theorem o_xp (ws d : List Nat) (k : Nat) (hs : small ws) (hd : small d) (hd1 : 1 ≤ d.length) (hk : k + d.length + 1 ≤ ws.length) (hn : ws.length ≤ 1000000) (htop : d.getD (d.length - 1) 0 ≠ 0) (hU : wval ((ws.drop k).take (d.length + 1)) < wval d * 18446744073709551616) :
  Eqn Tryz.prog o_ht [.row 0 k (d.length + 1), .d (W d)] [⟨28, uW ws⟩] (.d (.int .u64 (wval ((ws.drop k).take (d.length + 1)) / wval d : Nat))) [⟨28, uW (ovr ws k (wordsN (d.length + 1) (wval ((ws.drop k).take (d.length + 1)) % wval d)))⟩] := by
 refine Eqn.obj1 o_ry Plain.ok (o_1p _) ?_
 have htk := fun g hg => o_xo ws d k g hs hd hk hn hg
 obtain ⟨u, hu⟩ : ∃ u, u = (ws.drop k).take (d.length + 1) := ⟨_, rfl⟩
 have hul : u.length = d.length + 1 := by rw [hu]; exact o_ld (by omega)
 have hus : small u := by rw [hu]; exact (o_le hs k).take _
 have hug : ∀ i, i < d.length + 1 → u.getD i 0 = ws.getD (k + i) 0 := fun i hi => by rw [hu]; exact o_90 hi
 simp only [takeR, ← hu] at htk hU ⊢
 obtain ⟨n, hdn⟩ : ∃ n, d.length = n + 1 := ⟨d.length - 1, by omega⟩
 have hgn := o_27 (ws := ws) (j := k + d.length) (by omega)
 have hgm := o_27 (ws := ws) (j := k + n) (by omega)
 rw [← hug _ (by omega)] at hgn hgm
 have hwl := o_1g ws
 have hx1 := hus.getD d.length
 have hx0 := hus.getD n
 have hdt : d[n]? = some (d.getD n 0) := by rw [List.getD_eq_getElem?_getD, List.getElem?_eq_getElem (by omega)]; rfl
 have hdt2 : d[n]'(by omega) = d.getD n 0 := o_9 (by omega)
 have hdg := hd.getD n
 rw [hdn, Nat.add_sub_cancel] at htop
 have hUx : wval u / 18446744073709551616 ^ n = u.getD d.length 0 * 18446744073709551616 + u.getD n 0 := o_xf hus (by omega) hdn
 have hDt : d.getD n 0 * 18446744073709551616 ^ n ≤ wval d := o_lg (by omega)
 generalize u.getD d.length 0 = x1 at *
 generalize u.getD n 0 = x0 at *
 generalize hdd : d.getD n 0 = dt at *
 have hD0 : 0 < wval d := Nat.lt_of_lt_of_le (Nat.mul_pos (by omega) (Nat.pow_pos (by decide))) hDt
 have ed : IntKind.i64.wrap ((d.length : Int) - 1) = (n : Int) := by rw [w64 (by omega) (by omega)]; omega
 have hkd : ((k : Int) + d.length).toNat = k + d.length := by omega
 have hnd : (n : Int) < d.length := by omega
 have hnd' : n < d.length := by omega
 obtain ⟨g, hg, hgD, hgc⟩ : ∃ g : Nat, g ≤ 18446744073709551615 ∧ wval u / wval d ≤ g ∧ (if x1 < dt then g = (x1 * 18446744073709551616 + x0) / dt else g = 18446744073709551615) := by
  by_cases h : x1 < dt
  ·refine ⟨(x1 * 18446744073709551616 + x0) / dt, ?_, o_tv (B := 18446744073709551616) (by decide) (Nat.pow_pos (by decide)) hUx hDt (by omega), by rw [if_pos h]⟩
   have : (x1 * 18446744073709551616 + x0) / dt < 18446744073709551616 := by
    rw [Nat.div_lt_iff_lt_mul (by omega)]
    have : (x1 + 1) * 18446744073709551616 ≤ dt * 18446744073709551616 := Nat.mul_le_mul_right _ h
    omega
   omega
  ·refine ⟨18446744073709551615, by omega, ?_, by rw [if_neg h]⟩
   have : wval u / wval d < 18446744073709551616 := by rw [Nat.div_lt_iff_lt_mul hD0, Nat.mul_comm]; exact hU
   omega
 simp only [o_hu, W] at htk ⊢
 repeat (first | refine AW.seq ?_ | refine AW.block ?_)
 refine AW.reg mix ?_
 (simp -implicitDefEqProofs; try simp (disch := omega) only [w64, wu64])
 try refine need.of (by first | omega | kernel_rfl) ?_
 repeat (first | refine AW.seq ?_ | refine AW.block ?_)
 refine AW.reg mix ?_
 (simp -implicitDefEqProofs; try simp (disch := omega) only [w64, wu64])
 try refine need.of (by first | omega | kernel_rfl) ?_
 repeat (first | refine AW.seq ?_ | refine AW.block ?_)
 refine AW.reg mix ?_
 (simp -implicitDefEqProofs; try simp (disch := omega) only [w64, wu64])
 try refine need.of (by first | omega | kernel_rfl) ?_
 refine AW.cut 1 [(6, .d (.int .u64 g))] [(0, ⟨28, uW ws⟩)] (by simp) (by simp) ?_ ?_
 ·by_cases hlt : x1 < dt
  ·rw [if_pos hlt] at hgc
   have hlt' : (x1 : Int) < dt := by omega
   refine G1 (fs hwl (fs hgn (fs hgm (fs ed (fs hkd (fs hnd (fs hnd' (fs hdt (fs hdt2 (fs hlt hlt')))))))))) ?_; try with_reducible exact tt
   refine AW.cond rfl (fun h => ?_) (fun h => ?_)
   ·have hdiv := o_l5 x1 x0 dt hlt hx0 hdg
    rw [← hgc] at hdiv
    refine G1 (fs hwl (fs hgn (fs hgm (fs ed (fs hkd (fs hnd (fs hnd' hdt))))))) ?_; try with_reducible exact tt
    simp only [hdt2]
    refine CallS.pu (hdiv) (R0 ?_); try with_reducible exact tt
    exact o_d _ _
   ·simp [hlt, hlt'] at h
  ·rw [if_neg hlt] at hgc
   have hlt' : ¬ (x1 : Int) < dt := by omega
   refine G1 (fs hwl (fs hgn (fs hgm (fs ed (fs hkd (fs hnd (fs hnd' (fs hdt (fs hdt2 (fs hlt hlt')))))))))) ?_; try with_reducible exact tt
   refine AW.cond rfl (fun h => ?_) (fun h => ?_)
   ·simp [hlt, hlt'] at h
   ·refine AW.skip ?_
    subst hgc
    simp [o_d]
 clear hgc
 have hDn : wval d < 18446744073709551616 ^ d.length := o_7 hd
 have hgM : g * wval d ≤ wval u + 18446744073709551616 ^ (d.length + 1) := by
  rw [Nat.pow_succ]
  have : g * wval d ≤ 18446744073709551616 * 18446744073709551616 ^ d.length := Nat.mul_le_mul (by omega) (by omega)
  rw [Nat.mul_comm _ 18446744073709551616]
  omega
 obtain ⟨t0, l0, ht0, hl0, hsl0, hv0, hE0⟩ : ∃ (t0 : Nat) (l0 : List Nat), t0 ≤ 1 ∧ l0.length = d.length + 1 ∧ small l0 ∧ wval l0 + g * wval d = wval u + 18446744073709551616 ^ (d.length + 1) * t0 ∧
   Eqn Tryz.prog o_7d [.row 0 k (d.length + 1), .d (.sl d.length (d.map fun x : Nat => D.int .u64 x)), .d (.int .u64 g)] [⟨28, uW ws⟩] (.d (.int .i64 t0)) [⟨28, uW (ovr ws k l0)⟩] := by
  refine ⟨if wval u < g * wval d then 1 else 0, _, by split <;> omega, o_2z _ _, o_8y _ _, o_xc hus hul hgM, ?_⟩
  have := htk g (by omega)
  rw [show ((if wval u < g * wval d then 1 else 0 : Nat) : Int) = if wval u < g * wval d then 1 else 0 by split <;> rfl]
  exact this
 clear htk hgM
 simp
 refine G0 ?_; try with_reducible exact tt
 refine CallS.o1 0 (hE0) (hO := o_1p _) (hO' := (o_1p _)) (R0 ?_); try with_reducible exact tt
 refine AW.loopT (α := Nat × Nat × List Nat) 1 (fun s => [(7, .d (.int .i64 (s.1 : Nat))), (6, .d (.int .u64 (s.2.1 : Nat)))]) (fun s => [(0, ⟨28, uW (ovr ws k s.2.2)⟩)]) (fun s => s.1 ≤ 1 ∧ s.2.1 ≤ 18446744073709551615 ∧ wval u / wval d ≤ s.2.1 ∧ s.2.2.length = d.length + 1 ∧ small s.2.2 ∧ wval s.2.2 + s.2.1 * wval d = wval u + 18446744073709551616 ^ (d.length + 1) * s.1) (fun s => s.2.1) (t0, g, l0) ?_ ?_ ⟨ht0, hg, hgD, hl0, hsl0, hv0⟩ ?_ ?_ ?_
 ·simp
 ·simp
 ·simp
 ·simp [o_d]
 clear hE0 hl0 hsl0 hv0 ht0 hg hgD
 rintro ⟨t, g, l⟩ ⟨ht, hg, hgD, hl, hsl, hv⟩
 simp only at ht hg hgD hl hsl hv
 simp
 rcases (by omega : t = 0 ∨ t = 1) with rfl | rfl
 ·rw [Nat.mul_zero, Nat.add_zero] at hv
  obtain ⟨hq, hr⟩ := o_tx hD0 hgD hv
  have hlw := o_8z hsl hl hr.symm
  refine G0 ?_; try with_reducible exact tt
  refine AW.cond rfl (fun h => ?_) (fun h => ?_)
  ·simp at h
  refine AW.exit ?_
  (try (simp -implicitDefEqProofs; try simp (disch := omega) only [w64, wu64]))
  refine G0 ?_; try with_reducible exact tt
  rw [← hlw]
  refine ⟨Sub1.int ?_, Subs.refl _⟩
  rw [← hq]; rfl
 ·rw [Nat.mul_one] at hv
  obtain ⟨hg0, hn1, hn2⟩ := o_tw (P := 18446744073709551616 ^ d.length) (by rw [Nat.pow_succ, Nat.mul_comm]) hDn hD0 hg (by rw [← hl]; exact o_7 hsl) hv
  have ew : IntKind.u64.wrap ((g : Int) - 1) = ((g - 1 : Nat) : Int) := by rw [wu64 (by omega) (by omega)]; omega
  refine G1 ew ?_; try with_reducible exact tt
  refine AW.cond rfl (fun h => ?_) (fun h => ?_)
  rotate_left
  ·simp at h
  refine G1 ew ?_; try with_reducible exact tt
  have hwlen : (ovr ws k l).length = ws.length := o_29 (by omega)
  have hlg : ∀ j, j < d.length + 1 → (ovr ws k l).getD (k + j) 0 = l.getD j 0 := fun j hj => o_lf (by omega) (by omega)
  have hws1 : small (ovr ws k l) := o_l8 hs hsl
  have hoo : ∀ r, r.length = d.length + 1 → ovr (ovr ws k l) k r = ovr ws k r := fun r hr => o_x9 (by omega) (by omega)
  refine AW.loopT (α := Nat × Nat × List Nat) 1 (fun s => [(53, .d (.int .i64 (s.1 : Nat))), (8, .d (.int .u64 (s.2.1 : Nat)))]) (fun s => [(0, ⟨28, uW (ovr (ovr ws k l) k s.2.2)⟩)]) (fun s => s.1 ≤ d.length ∧ s.2.1 ≤ 1 ∧ s.2.2.length = s.1 ∧ small s.2.2 ∧ wval s.2.2 + 18446744073709551616 ^ s.1 * s.2.1 = wval (l.take s.1) + wval (d.take s.1)) (fun s => d.length - s.1) (0, 0, []) ?_ ?_ ⟨Nat.zero_le _, by simp, rfl, o_91, by simp [wval]⟩ ?_ ?_ ?_
  ·simp
  ·simp
  ·simp
  ·simp [o_d, o_l9]
  rintro ⟨j, c, r⟩ ⟨hj, hc, hr, hsr, hv2⟩
  simp only at hj hc hr hsr hv2
  simp
  have hol : (uW (ovr (ovr ws k l) k r)).length = ws.length := by rw [o_1g, o_29 (by omega), hwlen]
  have hget := o_27 (ws := ovr (ovr ws k l) k r) (j := k + j) (by rw [← o_1g, hol]; omega)
  have hnx := o_la (ws := ovr ws k l) (k := k) (l := r) (by omega)
  rw [hr] at hnx
  rw [hnx, hlg j (by omega)] at hget
  have hx := hsl.getD j
  have hset : ∀ v : Nat, (uW (ovr (ovr ws k l) k r)).set (k + j) (.d (.int .u64 v)) = uW (ovr (ovr ws k l) k (r ++ [v])) := fun v => by rw [o_50, ← hr, o_lb (by omega)]
  have hkj : ((k : Int) + j).toNat = k + j := by omega
  obtain ⟨x, hxd⟩ : ∃ x, x = l.getD j 0 := ⟨_, rfl⟩
  rw [← hxd] at hget hx
  by_cases hjn : j < d.length
  ·have hjn' : (j : Int) < d.length := by omega
   have hy : d[j] < 18446744073709551616 := hd _ (List.getElem_mem _)
   have hyd : d[j] = d.getD j 0 := o_9 hjn
   have e2 : IntKind.i64.wrap ((j : Int) + 1) = ((j + 1 : Nat) : Int) := by rw [w64 (by omega) (by omega)]; omega
   refine G1 (fs hjn hjn') ?_; try with_reducible exact tt
   refine AW.cond rfl (fun h => ?_) (fun h => ?_)
   rotate_left
   ·simp [hjn, hjn'] at h
   clear h
   refine G1 (fs hjn (fs hjn' (fs hol (fs hget hkj)))) ?_; try with_reducible exact tt
   generalize d[j] = y at hy hyd ⊢
   obtain ⟨z, nc, hzc, hz, hnc⟩ : ∃ z nc : Nat, x + y + c = z + 18446744073709551616 * nc ∧ z < 18446744073709551616 ∧ nc ≤ 1 := ⟨(x + y + c) % 18446744073709551616, (x + y + c) / 18446744073709551616, by omega, by omega, by omega⟩
   have hround := o_xd hv2 hzc
   rw [show wval r + 18446744073709551616 ^ j * z = wval (r ++ [z]) by rw [o_31, hr], show wval (l.take j) + 18446744073709551616 ^ j * x = wval (l.take (j + 1)) by rw [o_8, ← hxd], show wval (d.take j) + 18446744073709551616 ^ j * y = wval (d.take (j + 1)) by rw [o_8, ← hyd], ← Nat.pow_succ] at hround
   refine CallS.pu (o_20 x y c z nc hx hy hc hz hzc) (R1 (fs hol (fs hkj (fs hset e2))) ?_); try with_reducible exact tt
   exact ⟨j + 1, nc, r ++ [z], ⟨hjn, hnc, by simp [hr], o_30 hsr hz, hround⟩, by omega, by simp, Subs.refl _, o_d _ _⟩
  ·have h2 : j = d.length := by omega
   subst h2
   rw [List.take_length] at hv2
   have hlx : wval l = wval (l.take d.length) + 18446744073709551616 ^ d.length * x := by rw [hxd, ← o_8, List.take_of_length_le (by omega)]
   obtain ⟨v, nv, hvc, hvl, hnv⟩ : ∃ v nv : Nat, x + c = v + 18446744073709551616 * nv ∧ v < 18446744073709551616 ∧ nv ≤ 1 := ⟨(x + c) % 18446744073709551616, (x + c) / 18446744073709551616, by omega, by omega, by omega⟩
   have wv : IntKind.u64.wrap ((x : Int) + c) = (v : Int) := by rw [IntKind.wrap_u64]; omega
   have hrv : (r ++ [v]).length = d.length + 1 := by simp [hr]
   have hsum := o_xe (p := 18446744073709551616 ^ d.length) (wr := wval r) (c := c) (x := x) hv2 hlx hvc
   rw [show wval r + 18446744073709551616 ^ d.length * v = wval (r ++ [v]) by rw [o_31, hr], ← Nat.pow_succ] at hsum
   have hrlt := o_7 (o_30 hsr hvl)
   rw [hrv] at hrlt
   replace hset := hset v
   rw [hoo _ hrv] at hset
   have hget2 := o_27 (ws := ovr ws k (r ++ [v])) (j := k + d.length) (by rw [o_29 (by omega)]; omega)
   rw [o_lf (by omega) (by omega), show (r ++ [v]).getD d.length 0 = v by rw [← hr]; simp] at hget2
   refine G0 ?_; try with_reducible exact tt
   refine AW.cond rfl (fun h => ?_) (fun h => ?_)
   ·simp at h
   refine AW.exit ?_
   (try (simp -implicitDefEqProofs; try simp (disch := omega) only [w64, wu64]))
   have hol2 : (uW (ovr ws k (r ++ [v]))).length = ws.length := by rw [o_1g, o_29 (by omega)]
   have hsr2 := o_30 hsr hvl
   generalize hr2 : r ++ [v] = r2 at *
   have hrw : wval r < 18446744073709551616 ^ d.length := by rw [← hr]; exact o_7 hsr
   have hrw2 : wval r2 = wval r + 18446744073709551616 ^ d.length * v := by rw [← hr2, o_31, hr]
   by_cases hv0 : v = 0
   ·subst hv0
    have hnv1 : nv = 1 := by
     rcases (by omega : nv = 0 ∨ nv = 1) with rfl | h
     ·exfalso
      rw [Nat.mul_zero, Nat.add_zero] at hsum
      rw [Nat.mul_zero, Nat.add_zero] at hrw2
      have := (hn2 (by omega)).2
      omega
     ·exact h
    subst hnv1
    rw [Nat.mul_one] at hsum
    obtain ⟨k1, k2, k3, -⟩ := hn1 (by omega)
    simp at hset hget2 wv
    refine G1 (fs hol (fs hget (fs hkj (fs wv (fs hset (fs hget2 hol2)))))) ?_; try with_reducible exact tt
    refine AW.cond rfl (fun h => ?_) (fun h => ?_)
    ·simp at h
    repeat (first | refine AW.seq ?_ | refine AW.block ?_ | (refine AW.reg mix ?_; simp -implicitDefEqProofs; try simp (disch := omega) only [w64, wu64]) | (refine need.of (by first | omega | kernel_rfl) ?_) | (refine AW.fin ?_; try simp -implicitDefEqProofs))
    (try (simp -implicitDefEqProofs; try simp (disch := omega) only [w64, wu64]))
    repeat (first | refine AW.seq ?_ | refine AW.block ?_ | (refine AW.reg mix ?_; simp -implicitDefEqProofs; try simp (disch := omega) only [w64, wu64]) | (refine need.of (by first | omega | kernel_rfl) ?_) | (refine AW.fin ?_; try simp -implicitDefEqProofs))
    refine ⟨0, g - 1, r2, ⟨by omega, by omega, by omega, hrv, hsr2, ?_⟩, by omega, by simp, ?_⟩
    ·rw [Nat.mul_zero, Nat.add_zero, ← k1]; omega
    ·exact ⟨Subs.refl _, o_d _ _⟩
   ·have hnv0 : nv = 0 := by omega
    subst hnv0
    rw [Nat.mul_zero, Nat.add_zero] at hsum
    obtain ⟨k1, k2⟩ := hn2 (by omega)
    refine G1 (fs hol (fs hget (fs hkj (fs wv (fs hset (fs hget2 (fs hol2 hv0))))))) ?_; try with_reducible exact tt
    refine AW.cond rfl (fun h => ?_) (fun h => ?_)
    rotate_left
    ·simp [hv0] at h
    repeat (first | refine AW.seq ?_ | refine AW.block ?_ | (refine AW.reg mix ?_; simp -implicitDefEqProofs; try simp (disch := omega) only [w64, wu64]) | (refine need.of (by first | omega | kernel_rfl) ?_) | (refine AW.fin ?_; try simp -implicitDefEqProofs))
    (try (simp -implicitDefEqProofs; try simp (disch := omega) only [w64, wu64]))
    repeat (first | refine AW.seq ?_ | refine AW.block ?_ | (refine AW.reg mix ?_; simp -implicitDefEqProofs; try simp (disch := omega) only [w64, wu64]) | (refine need.of (by first | omega | kernel_rfl) ?_) | (refine AW.fin ?_; try simp -implicitDefEqProofs))
    refine ⟨1, g - 1, r2, ⟨by omega, by omega, ?_, hrv, hsr2, ?_⟩, by omega, by simp, ?_⟩
    ·exact Nat.div_le_of_le_mul (by rw [Nat.mul_comm]; omega)
    ·omega
    ·exact ⟨Subs.refl _, o_d _ _⟩
end
end Go.Proofs.YtijbgbpjionfjaaGreatDoor.Am
namespace Go.Proofs.YtijbgbpjionfjaaGreatDoor.Am
section
open Go.RowKit
set_option maxHeartbeats 1000000 in
theorem o_xq (A : List Nat) (k : Nat) (hk : k < 64) (hs : small A) (hn : A.length ≤ 1000000) : Eqn Tryz.prog o_70 [.d (W A), .d (.int .i64 k)] [] (.own 0 1 (A.length + 1)) [⟨28, uW (movedL k 0 A)⟩] := by
 refine Eqn.gen [0] o_g9 (by simp) (by simp) (by rfl) (by decide) (by simp) (by simp [o_d]) ?_
 simp only [o_71, W]
 refine G0 ?_; try with_reducible exact tt
 rw [show List.replicate (A.length + 1) (V.d (.int .u64 0)) = cellM k A 0 by rw [cellM, o_j3]; simp [U]]
 have hlow : ∀ i, V.lowl 1 (cellM k A i) = true := fun i => o_45 1 _
 refine AW.loopT (α := Nat) 1 (fun i => [(14, .d (.int .i64 (i : Int)))]) (fun i => [(0, ⟨28, cellM k A i⟩)]) (fun i => i ≤ A.length) (fun i => A.length - i) 0 ?_ ?_ (Nat.zero_le _) ?_ ?_ ?_
 ·simp
 ·simp
 ·simp
 ·simp [hlow]
 rintro i hi
 simp
 by_cases h : i = A.length
 ·subst h
  refine G0 ?_; try with_reducible exact tt
  refine AW.cond rfl (fun h => ?_) (fun h => ?_)
  ·simp at h
  refine AW.exit ?_
  (try (simp -implicitDefEqProofs; try simp (disch := omega) only [w64, wu64]))
  rw [cellM, o_j4]
  repeat (first | refine AW.seq ?_ | refine AW.block ?_ | (refine AW.reg mix ?_; simp -implicitDefEqProofs [uW]; try simp (disch := omega) only [w64, wu64]) | (refine need.of (by first | omega | kernel_rfl) ?_) | (refine AW.fin ?_; try simp -implicitDefEqProofs [uW]))
  rw [show U (movedL k 0 A) = uW (movedL k 0 A) from rfl, o_lh]
  exact Subs.refl _
 ·have hi' : i < A.length := by omega
  have hp : (i : Int) < A.length := by omega
  obtain ⟨c, y, u, hl, hq, hor, hw, hd, hset⟩ : ∃ c z u : Nat, (cellM k A i).length = A.length + 1 ∧ (cellM k A i)[i]? = some (.d (.int .u64 c)) ∧ bits BinOp.or IntKind.u64 (c : Int) (IntKind.u64.wrap ((A[i] : Int) * 2 ^ k)) = (z : Int) ∧
    True ∧ (A[i] : Int) / 2 ^ (64 - k) = (u : Int) ∧ ((cellM k A i).set i (.d (.int .u64 z))).set (i + 1) (.d (.int .u64 u)) = cellM k A (i + 1) := by
   have hl := o_j2 k A i hi
   have hc := o_is (k := k) (l := A.take i) (c := 0) (hs.take i) (Nat.two_pow_pos k)
   have hset := o_j6 k A i hi'
   rw [← o_9 hi'] at hset
   refine ⟨movedC k 0 (A.take i), A[i] * 2 ^ k % 18446744073709551616 + movedC k 0 (A.take i), A[i] * 2 ^ k / 18446744073709551616, by simp [cellM, U, hl], ?_, ?_, trivial, ?_, ?_⟩
   ·have := o_j5 k A i hi'
    rw [List.getD, List.getElem?_eq_getElem (by omega)] at this
    rw [cellM, U, List.getElem?_map, List.getElem?_eq_getElem (by omega)]
    simp at this
    simp [this]
   ·rw [show IntKind.u64.wrap ((A[i] : Int) * 2 ^ k) = ((A[i] * 2 ^ k % 18446744073709551616 : Nat) : Int) by rw [IntKind.wrap_u64, Int.natCast_emod, Int.natCast_mul, Int.natCast_pow]; rfl]
    rw [bits_or_u64_nat _ _ (Nat.lt_of_lt_of_le hc (by rw [show (18446744073709551616 : Nat) = 2 ^ 64 by rfl]; exact Nat.pow_le_pow_right (by decide) (by omega))) (Nat.mod_lt _ (by decide)), o_it hk hc]
   ·rw [o_iu (by omega), Int.natCast_ediv, Int.natCast_pow]; rfl
   ·rw [cellM, cellM, ← hset, U, U, List.map_set, List.map_set]
  have hn : ((64 : Int) - k).toNat = 64 - k := by omega
  have e1 : IntKind.i64.wrap ((i : Int) + 1) = (i : Int) + 1 := w64 (by omega) (by omega)
  have e2 : IntKind.i64.wrap ((64 : Int) - k) = (64 : Int) - k := w64 (by omega) (by omega)
  generalize cellM k A i = cm at hl hq hset
  refine G1 (fs hi' hp) ?_; try with_reducible exact tt
  refine AW.cond rfl (fun h => ?_) (fun h => ?_)
  ·clear h
   refine G1 (fs hi' (fs hp (fs hl (fs hq (fs hor (fs e1 (fs e2 (fs hn (fs hd hset))))))))) ?_; try with_reducible exact tt
   exact ⟨i + 1, by omega, by omega, by simp [wk], by simp [wkH, hlow]⟩
  ·simp at h

theorem o_li (n s : Nat) (ds : List D) (ws : List Nat) : V.frzs n s ds (uW ws) = uW ws := by
 rw [o_5s, uW, U, List.map_map]; rfl
theorem uW_d (ws : List Nat) : uW ws = (ws.map fun x : Nat => D.int .u64 x).map V.d := by rw [List.map_map]; rfl

set_option maxHeartbeats 4000000 in
theorem o_xr (a b : Nat) (hb : 18446744073709551616 ≤ b) (hab : b ≤ a) (ha : size a ≤ 900000) : Eqn Tryz.prog o_hr [.d (.agg [natW a]), .d (.agg [natW b])] [] (.tup [.d (.agg [natW (a / b)]), .d (.agg [natW (a % b)]), .d (.int .i64 0)]) [] := by
 refine Eqn.pure o_rx Plain.ok ?_
 have hba := o_b hab
 unfold size at ha hba
 have hsA := o_4 a
 have hsB := o_4 b
 have htB := o_10 b
 have hvA := o_1 a
 have hvB := o_1 b
 have hB2 : 2 ≤ (words b).length := by
  rcases Nat.lt_or_ge (words b).length 2 with h | h
  ·exfalso
   have := o_7 hsB
   rw [hvB] at this
   have h2 : 18446744073709551616 ^ (words b).length ≤ 18446744073709551616 ^ 1 := Nat.pow_le_pow_right (by decide) (by omega)
   omega
  ·exact h
 simp only [o_hs, natW, W]
 generalize words a = A at *
 generalize words b = Bw at *
 obtain ⟨n, hn⟩ : ∃ n, Bw.length = n + 1 := ⟨Bw.length - 1, by omega⟩
 have htop := htB n hn
 have htl := hsB.getD n
 have hget : Bw[n]'(by omega) = Bw.getD n 0 := o_9 (by omega)
 have hlead := o_jm (Bw.getD n 0) htl
 have e1 : IntKind.i64.wrap ((Bw.length : Int) - 1) = (n : Int) := by rw [w64 (by omega) (by omega)]; omega
 have hnB : n < Bw.length := by omega
 have hnB' : (n : Int) < Bw.length := by omega
 generalize Bw.getD n 0 = top at *
 obtain ⟨s, hs⟩ : ∃ s, s = 64 - bitsN top := ⟨_, rfl⟩
 rw [← hs] at hlead
 have hs64 : s < 64 := by have := (o_jh (n := top) (by omega)).2; omega
 have hmB := o_j7 Bw s hs64 hsB (by omega)
 have hmA := o_xq A s hs64 hsA (by omega)
 simp only [W, o_1d] at hmB
 refine G1 (fs e1 (fs hnB (fs hnB' hget))) ?_; try with_reducible exact tt
 refine CallS.pu (hlead) (R1 (fs e1 (fs hnB (fs hnB' hget))) ?_); try with_reducible exact tt
 refine CallS.pu (hmB) (R1 (fs e1 (fs hnB (fs hnB' hget))) ?_); try with_reducible exact tt
 have hlm : (A.length : Int) + 1 - Bw.length = ((A.length - n : Nat) : Int) := by omega
 have hlm2 : IntKind.i64.wrap ((A.length : Int) + 1 - Bw.length) = ((A.length - n : Nat) : Int) := by rw [w64 (by omega) (by omega), hlm]
 have hlm3 : IntKind.i64.wrap (((A.length - n : Nat) : Int) - 1) = ((A.length - n : Nat) : Int) - 1 := w64 (by omega) (by omega)
 refine CallS.nX (hmA) (hO' := (o_1p _)) (R1 (fs e1 (fs hnB (fs hnB' (fs hget (fs hlm2 hlm3))))) ?_); try with_reducible exact tt
 have hnA : n + 1 ≤ A.length := by omega
 have hbn : 18446744073709551616 ^ n ≤ wval Bw := by
  have h1 := o_lg (d := Bw) (n := n) hnB
  rw [o_9 hnB] at hget
  rw [hget] at h1
  have : 1 * 18446744073709551616 ^ n ≤ top * 18446744073709551616 ^ n := Nat.mul_le_mul_right _ (by omega)
  omega
 have hD2 : wval Bw * 2 ^ s < 18446744073709551616 ^ Bw.length := by
  have h1 := o_8 Bw n
  rw [List.take_of_length_le (by omega)] at h1
  rw [o_9 hnB] at hget
  rw [hget] at h1
  have h2 := o_2q hsB n
  have h3 : top < 2 ^ bitsN top := o_t top
  have h4 : wval Bw < 2 ^ bitsN top * 18446744073709551616 ^ n := by
   have : (top + 1) * 18446744073709551616 ^ n ≤ 2 ^ bitsN top * 18446744073709551616 ^ n := Nat.mul_le_mul_right _ h3
   rw [Nat.add_mul, Nat.one_mul, Nat.mul_comm top] at this
   omega
  have h5 : wval Bw * 2 ^ s < 2 ^ bitsN top * 18446744073709551616 ^ n * 2 ^ s := Nat.mul_lt_mul_of_pos_right h4 (Nat.two_pow_pos s)
  have h6 : 2 ^ bitsN top * 18446744073709551616 ^ n * 2 ^ s = 18446744073709551616 ^ Bw.length := by
   have hb64 : bitsN top ≤ 64 := o_p htl
   rw [Nat.mul_right_comm, ← Nat.pow_add, show bitsN top + s = 64 by omega, hn, Nat.pow_succ, Nat.mul_comm]
   rfl
  omega
 have hDv := o_xm hD2
 have hsd : small ((movedL s 0 Bw).take Bw.length) := (o_7o hs64 hsB (Nat.two_pow_pos s)).take _
 have hdl : ((movedL s 0 Bw).take Bw.length).length = n + 1 := by rw [List.length_take, o_1d]; omega
 have hU0 := o_7n s A 0
 have hsU : small (movedL s 0 A) := o_7o hs64 hsA (Nat.two_pow_pos s)
 have hlU := o_1d s A 0
 rw [Nat.add_zero] at hU0
 have hp2 := Nat.two_pow_pos s
 have hD0 : 18446744073709551616 ^ n * 2 ^ s ≤ wval Bw * 2 ^ s := Nat.mul_le_mul_right _ hbn
 have hDpos : 0 < wval Bw * 2 ^ s := Nat.lt_of_lt_of_le (Nat.mul_pos (Nat.pow_pos (by decide)) hp2) hD0
 simp only [← List.map_take]
 generalize hdd : (movedL s 0 Bw).take Bw.length = d at *
 generalize hUU : movedL s 0 A = u0 at *
 have hdtop : d.getD (d.length - 1) 0 ≠ 0 := by
  intro h0
  have h1 := o_8 d n
  have he : d.take (n + 1) = d := List.take_of_length_le (by omega)
  rw [he] at h1
  rw [hdl, Nat.add_sub_cancel] at h0
  rw [h0, Nat.mul_zero, Nat.add_zero] at h1
  have h2 := o_2q hsd n
  have h3 : 18446744073709551616 ^ n * 1 ≤ 18446744073709551616 ^ n * 2 ^ s := Nat.mul_le_mul_left _ hp2
  omega
 generalize hm : A.length - n = m at *
 have hstart : wval ((u0.drop m).take (n + 1)) < wval d := by
  have h1 := o_93 (ws := u0) m (n + 1) (by omega)
  rw [List.take_of_length_le (by omega), hU0] at h1
  have h2 := o_7 hsA
  have h3 : wval A * 2 ^ s < 18446744073709551616 ^ A.length * 2 ^ s := Nat.mul_lt_mul_of_pos_right h2 hp2
  rw [hDv]
  refine Nat.lt_of_lt_of_le ?_ hD0
  have h4 : 18446744073709551616 ^ A.length = 18446744073709551616 ^ m * 18446744073709551616 ^ n := by rw [← Nat.pow_add]; congr 1; omega
  rw [h4, Nat.mul_assoc] at h3
  have h5 : 18446744073709551616 ^ m * wval ((u0.drop m).take (n + 1)) < 18446744073709551616 ^ m * (18446744073709551616 ^ n * 2 ^ s) := by omega
  exact Nat.lt_of_mul_lt_mul_left h5
 have hdlt : wval d < 18446744073709551616 ^ (n + 1) := by rw [← hdl]; exact o_7 hsd
 have htkall : u0.take (m + (n + 1)) = u0 := List.take_of_length_le (by omega)
 have hdB : d.length = Bw.length := by omega
 rw [show List.replicate m (V.d (.int .u64 0)) = uW (List.replicate m 0 ++ []) by simp [uW, U]]
 refine AW.loopT (α := Nat × List Nat × List Nat) 6 (fun s => [(12, .d (.int .i64 ((s.1 : Int) - 1)))]) (fun s => [(4, ⟨28, uW s.2.1⟩), (5, ⟨28, uW (List.replicate s.1 0 ++ s.2.2)⟩)]) (fun s => s.1 ≤ m ∧ s.2.1.length = A.length + 1 ∧ small s.2.1 ∧ s.2.2.length = m - s.1 ∧ small s.2.2 ∧ wval u0 = wval (s.2.1.take (s.1 + (n + 1))) + wval d * (18446744073709551616 ^ s.1 * wval s.2.2) ∧ wval ((s.2.1.drop s.1).take (n + 1)) < wval d) (fun s => s.1) (m, u0, []) ?_ ?_ ⟨Nat.le_refl _, hlU, hsU, by simp, o_91, by rw [htkall]; simp [wval], hstart⟩ ?_ ?_ ?_
 ·simp
 ·simp
 ·simp
 ·simp [o_d]
 clear hstart hsU hlU
 rintro ⟨kk, ws, q⟩ ⟨hkm, hwl, hws, hql, hsq, hv, hlt⟩
 simp only at hkm hwl hws hql hsq hv hlt
 simp
 cases kk with
 | zero =>
  refine G0 ?_; try with_reducible exact tt
  refine AW.cond rfl (fun h => ?_) (fun h => ?_)
  ·simp at h
  refine AW.exit ?_
  (try (simp -implicitDefEqProofs; try simp (disch := omega) only [w64, wu64]))
  rw [Nat.zero_add, Nat.pow_zero, Nat.one_mul] at hv
  rw [List.drop_zero] at hlt
  rw [Nat.sub_zero] at hql
  have hdp : 0 < wval d := by omega
  have hqv : wval q = wval u0 / wval d := by rw [hv, Nat.add_mul_div_left _ _ hdp, Nat.div_eq_of_lt hlt, Nat.zero_add]
  have hrv : wval (ws.take (n + 1)) = wval u0 % wval d := by rw [hv, Nat.add_mul_mod_self_left, Nat.mod_eq_of_lt hlt]
  obtain ⟨k1, k2⟩ := o_7x (n := wval A) (y := wval Bw) (s := s)
  rw [hU0, hDv] at hqv hrv
  rw [k1] at hqv
  have ht1 := o_11 q hsq (by omega)
  have ht2 := o_11 (ws.take (n + 1)) (hws.take _) (by rw [List.length_take]; omega)
  have hl2 : (ws.take (n + 1)).length = n + 1 := by rw [List.length_take]; omega
  have hsz : size (wval (ws.take (n + 1))) ≤ 1000000 := Nat.le_trans (o_1l (o_10 _) (m := n + 1) (by rw [o_1]; have := o_7 (hws.take (n + 1)); rw [hl2] at this; exact this)) (by omega)
  have ht3 := o_jq (wval (ws.take (n + 1))) s hsz (by omega)
  rw [hrv, k2, ← hrv] at ht3
  rw [hqv] at ht1
  simp only [natW, W, hql, hl2] at ht1 ht2 ht3
  refine AW.freeze 4 1 ⟨28, uW ws⟩ (ws.map fun x : Nat => D.int .u64 x) (by rfl) (uW_d ws) ?_
  simp [o_li]
  refine AW.freeze 5 1 ⟨28, uW q⟩ (q.map fun x : Nat => D.int .u64 x) (by rfl) (uW_d q) ?_
  have hqt : q.take m = q := List.take_of_length_le (by omega)
  have hwt : ws.take (A.length + 1) = ws := List.take_of_length_le (by omega)
  have hnAl : (Bw.length : Int) ≤ (A.length : Int) + 1 := by omega
  simp [o_li, ← List.map_take, hqt, hwt]
  refine G1 hnAl ?_; try with_reducible exact tt
  refine CallS.pu (ht1) (R1 hnAl ?_); try with_reducible exact tt
  rw [← List.map_take, hn]
  refine CallS.pu (ht2) (R0 ?_); try with_reducible exact tt
  refine CallS.pu (ht3) (R0 ?_); try with_reducible exact tt
  rw [hvA, hvB]
  exact Sub1.refl _
 | succ k =>
  have hg0 : (0 : Int) ≤ k := by omega
  refine G1 hg0 ?_; try with_reducible exact tt
  refine AW.cond rfl (fun h => ?_) (fun h => ?_)
  rotate_left
  ·simp at h
  have w1 : IntKind.i64.wrap ((k : Int) + Bw.length) = (k : Int) + Bw.length := w64 (by omega) (by omega)
  have w2 : IntKind.i64.wrap ((k : Int) + Bw.length + 1) = (k : Int) + Bw.length + 1 := w64 (by omega) (by omega)
  have w3 : ((k : Int) + Bw.length + 1).toNat - k = Bw.length + 1 := by omega
  have w4 : IntKind.i64.wrap ((k : Int) - 1) = (k : Int) - 1 := w64 (by omega) (by omega)
  have hc1 : (k : Int) ≤ (k : Int) + Bw.length + 1 := by omega
  have hc2 : (k : Int) + Bw.length + 1 ≤ (A.length : Int) + 1 := by omega
  have hseg := o_xj (ws := ws) (k := k) (m := n + 1) (by omega)
  have hxk := hws.getD k
  have hS : wval ((ws.drop k).take (d.length + 1)) < wval d * 18446744073709551616 := by
   rw [hdl, hseg]; omega
  have hdig := o_xp ws d k hws hsd (by omega) (by omega) (by omega) hdtop hS
  simp only [W] at hdig
  rw [hdB] at hdig hS
  obtain ⟨S, hSd⟩ : ∃ S, S = wval ((ws.drop k).take (Bw.length + 1)) := ⟨_, rfl⟩
  have hvs := o_93 (ws := ws) k (Bw.length + 1) (by omega)
  rw [← hSd] at hdig hS hvs
  rw [show k + 1 + (n + 1) = k + (Bw.length + 1) by omega] at hv
  have hround := o_xg (Bk := 18446744073709551616 ^ k) (S := S) (Q := wval q) (D := wval d) (W1 := wval (ws.take k)) (U0 := wval u0) (BQ := 18446744073709551616 ^ (k + 1) * wval q) (by rw [hv, ← hvs]) (by rw [Nat.pow_succ])
  have hdp : 0 < wval d := by omega
  have hmodl : S % wval d < wval d := Nat.mod_lt _ hdp
  have hlow := o_xk (ws := ws) (k := k) (n := Bw.length) (x := S % wval d) (by omega) (by rw [hn]; exact Nat.lt_trans hmodl hdlt)
  have hwn := o_2z (Bw.length + 1) (S % wval d)
  have hwlen : (ovr ws k (wordsN (Bw.length + 1) (S % wval d))).length = ws.length := o_29 (by omega)
  have hsm := o_l8 (k := k) hws (o_8y (Bw.length + 1) (S % wval d))
  have hseg2 := o_93 (ws := ovr ws k (wordsN (Bw.length + 1) (S % wval d))) k Bw.length (by omega)
  rw [o_xi (by omega), hlow] at hseg2
  have hqd : S / wval d < 18446744073709551616 := by rw [Nat.div_lt_iff_lt_mul hdp, Nat.mul_comm]; exact hS
  have hset : (uW (List.replicate (k + 1) 0 ++ q)).set k (.d (.int .u64 (S / wval d : Nat))) = uW (List.replicate k 0 ++ (S / wval d) :: q) := by rw [o_50, o_xl]
  have hol : (uW (List.replicate (k + 1) 0 ++ q)).length = m := by rw [o_1g]; simp; omega
  generalize ovr ws k (wordsN (Bw.length + 1) (S % wval d)) = ws' at *
  generalize S / wval d = q0 at *
  refine G1 (fs w1 (fs w2 (fs w3 (fs hg0 (fs hc1 hc2))))) ?_; try with_reducible exact tt
  refine CallS.o1 4 (hdig) (hO := o_1p _) (hO' := (o_1p _)) (R1 (fs hol (fs hset w4)) ?_); try with_reducible exact tt
  refine ⟨k, ws', q0 :: q, ⟨by omega, by omega, hsm, by simp [hql]; omega, fun y hy => ?_, ?_, ?_⟩, by omega, by simp, ⟨Subs.refl _, o_d _ _⟩, Subs.refl _, o_d _ _⟩
  ·rcases List.mem_cons.1 hy with rfl | hy
   ·exact hqd
   ·exact hsq y hy
  ·rw [← hn, hseg2]; exact hround
  ·rw [← hn, hlow]; exact hmodl
end
end Go.Proofs.YtijbgbpjionfjaaGreatDoor.Am
namespace Go.Proofs.YtijbgbpjionfjaaGreatDoor.Am
section
open Go.RowKit
theorem o_94 (a b : Nat) (ha : size a ≤ 900000) (h0 : 0 < b) (hbs : size b ≤ 900000) : Eqn Tryz.prog o_7a [.d (.agg [natW a]), .d (.agg [natW b])] [] (.tup [.d (.agg [natW (a / b)]), .d (.agg [natW (a % b)]), .d (.int .i64 0)]) [] := by
 by_cases hsm : b < 18446744073709551616 ∨ a < b
 ·exact o_x7 a b (by omega) h0 hsm (by omega)
 ·have hb1 : 18446744073709551616 ≤ b := by omega
  have hab : b ≤ a := by omega
  refine Eqn.pure o_hp (o_2s _ _ _) ?_
  have hlong := o_xr a b hb1 hab ha
  have hz : (b == 0) = false := by simp; omega
  have hsz : 2 ≤ (words b).length := by
   rcases Nat.lt_or_ge (words b).length 2 with h | h
   ·exfalso
    have := o_7 (o_4 b)
    rw [o_1] at this
    have h2 : 18446744073709551616 ^ (words b).length ≤ 18446744073709551616 ^ 1 := Nat.pow_le_pow_right (by decide) (by omega)
    omega
   ·exact h
  obtain ⟨bn, bl, e', hbn⟩ : ∃ bn bl, natW b = .sl bn bl ∧ bn ≠ 1 := ⟨_, _, rfl, by omega⟩
  have hbn' : ¬ (bn : Int) = 1 := by omega
  have hcz : ¬ cmpZ a b < 0 := by rw [o_1e]; omega
  simp only [o_7b]
  refine G0 ?_; try with_reducible exact tt
  refine CallS.pu (o_o b) (R0 ?_); try with_reducible exact tt
  refine AW.cond rfl (fun h => ?_) (fun h => ?_)
  ·simp [hz] at h
  refine G0 ?_; try with_reducible exact tt
  refine CallS.pu (o_s a b (by omega) (by omega)) (R1 hcz ?_); try with_reducible exact tt
  refine AW.cond rfl (fun h => ?_) (fun h => ?_)
  ·simp [hcz] at h
  rw [e'] at hlong
  refine G1 (fs e' (fs hbn hbn')) ?_; try with_reducible exact tt
  refine AW.cond rfl (fun h => ?_) (fun h => ?_)
  ·simp [hbn, hbn'] at h
  ·refine G0 ?_; try with_reducible exact tt
   refine CallS.pu (hlong) (R0 ?_); try with_reducible exact tt

theorem o_xs (a b : Nat) (ha : size a ≤ 900000) (hb : size b ≤ 900000) : Eqn Tryz.prog o_hn [.d (.agg [natW a]), .d (.agg [natW b])] [] (.d (.agg [natW (Nat.gcd a b)])) [] := by
 refine Eqn.pure o_rv (o_0 _) ?_
 simp only [o_ho]
 refine G0 ?_; try with_reducible exact tt
 refine AW.loopT (α := Nat × Nat) 3 (fun _ => []) (fun p => [(0, ⟨47, [.d (natW p.1)]⟩), (1, ⟨47, [.d (natW p.2)]⟩)]) (fun p => size p.1 ≤ 900000 ∧ size p.2 ≤ 900000 ∧ Nat.gcd p.1 p.2 = Nat.gcd a b) (fun p => p.2) (a, b) ?_ ?_ ⟨ha, hb, rfl⟩ ?_ ?_ ?_
 ·simp
 ·simp
 ·simp
 ·simp
 rintro ⟨x, y⟩ ⟨hx, hy, hg⟩
 simp only at hx hy hg
 simp
 refine G0 ?_; try with_reducible exact tt
 refine CallS.pu (o_o y) (R0 ?_); try with_reducible exact tt
 by_cases h0 : y = 0
 ·subst h0
  rw [Nat.gcd_zero_right] at hg
  subst hg
  refine AW.cond rfl (fun h => ?_) (fun h => ?_)
  ·simp at h
  refine AW.exit ?_
  (try (simp -implicitDefEqProofs; try simp (disch := omega) only [w64, wu64]))
  refine G0 ?_; try with_reducible exact tt
  refine CallS.pu (o_h (words (Nat.gcd a b)) (o_4 _) (by unfold size at hx; omega)) (R0 ?_); try with_reducible exact tt
  refine Sub1.of ?_
  rw [o_1]
 ·have hy0 : 0 < y := by omega
  refine AW.cond rfl (fun h => ?_) (fun h => ?_)
  ·refine G0 ?_; try with_reducible exact tt
   refine CallS.pu (o_94 x y hx hy0 hy) (R0 ?_); try with_reducible exact tt
   refine ⟨y, x % y, ⟨hy, Nat.le_trans (o_b (Nat.mod_le x y)) hx, ?_⟩, Nat.mod_lt _ hy0, Subs.refl _, ?_⟩
   ·rw [← hg, Nat.gcd_comm x y, Nat.gcd_rec y x, Nat.gcd_comm]
   ·exact Subs.refl _
  ·simp at h
   exact absurd h h0
end
end Go.Proofs.YtijbgbpjionfjaaGreatDoor.Am
namespace Go.Proofs.YtijbgbpjionfjaaGreatDoor.Am
section
theorem o_95 (z : Int) (d : Nat) (hd : 0 < d) : (mkRat z d).num.natAbs = z.natAbs / Nat.gcd z.natAbs d ∧ (mkRat z d).den = d / Nat.gcd z.natAbs d ∧ ((mkRat z d).num < 0 ↔ z < 0) := by
 have hg : 0 < Nat.gcd z.natAbs d := Nat.gcd_pos_of_pos_right _ hd
 rw [Rat.mkRat_def, dif_neg (by omega), Rat.normalize_eq]
 have hdv : ((Nat.gcd z.natAbs d : Nat) : Int) ∣ z := Int.ofNat_dvd_left.2 (Nat.gcd_dvd_left _ _)
 refine ⟨?_, rfl, ?_⟩
 ·show (z / ((Nat.gcd z.natAbs d : Nat) : Int)).natAbs = _
  rw [Int.natAbs_ediv_of_dvd hdv, Int.natAbs_natCast]
 ·show z / ((Nat.gcd z.natAbs d : Nat) : Int) < 0 ↔ z < 0
  obtain ⟨k, hk⟩ := hdv
  have hg' : 0 < ((Nat.gcd z.natAbs d : Nat) : Int) := by omega
  generalize ((Nat.gcd z.natAbs d : Nat) : Int) = g at *
  rw [hk, Int.mul_ediv_cancel_left _ (by omega)]
  constructor
  ·intro h; exact Int.mul_neg_of_pos_of_neg hg' h
  ·intro h
   rcases Int.lt_or_le k 0 with h1 | h1
   ·exact h1
   ·have := Int.mul_nonneg (Int.le_of_lt hg') h1; omega
theorem o_lj (x y : Rat) : x + y = mkRat (x.num * y.den + y.num * x.den) (x.den * y.den) := Rat.add_def' x y
theorem o_lk (x y : Rat) : x * y = mkRat (x.num * y.num) (x.den * y.den) := Rat.mul_def' x y
theorem o_ll (x y : Rat) : x < y ↔ x.num * y.den < y.num * x.den := Rat.lt_iff x y
end
end Go.Proofs.YtijbgbpjionfjaaGreatDoor.Am
namespace Go.Proofs.YtijbgbpjionfjaaGreatDoor.Am
section
open Go.RowKit
def wD (z : Int) : D := .agg [natW z.natAbs, .bool (decide (z < 0))]
def rD (q : Rat) : D := .agg [natW q.num.natAbs, .bool (decide (q.num < 0)), natW (q.den - 1)]

theorem o_j (a b : Nat) : size (a * b) ≤ size a + size b := by
 refine o_1l (o_10 _) ?_
 rw [o_1, Nat.pow_add]
 have ha := o_7 (o_4 a)
 have hb := o_7 (o_4 b)
 rw [o_1] at ha hb
 unfold size
 exact Nat.mul_lt_mul'' ha hb
theorem o_lm (a b : Nat) : size (a + b) ≤ max (size a) (size b) + 1 := by
 refine o_1l (o_10 _) ?_
 rw [o_1, Nat.pow_succ]
 have ha := o_7 (o_4 a)
 have hb := o_7 (o_4 b)
 rw [o_1] at ha hb
 have h1 : 18446744073709551616 ^ (words a).length ≤ 18446744073709551616 ^ max (size a) (size b) := Nat.pow_le_pow_right (by decide) (Nat.le_max_left _ _)
 have h2 : 18446744073709551616 ^ (words b).length ≤ 18446744073709551616 ^ max (size a) (size b) := Nat.pow_le_pow_right (by decide) (Nat.le_max_right _ _)
 omega

theorem o_xt (m n : Nat) (hm : size m ≤ 1000000) (hn : size n ≤ 1000000) (hlt : m < n) : Eqn Tryz.prog o_3w [.d (.agg [natW m]), .d (.agg [natW n])] [] (.tup [.d (.agg [.nilsl]), .d (.int .i64 2)]) [] := by
 refine Eqn.pure o_7c Plain.ok ?_
 have hc := o_s m n hm hn
 have hlt' : cmpZ m n < 0 := o_1e.2 hlt
 simp only [o_3x]
 refine G0 ?_; try with_reducible exact tt
 refine CallS.pu (hc) (R1 hlt' ?_); try with_reducible exact tt
 refine AW.cond rfl (fun h => ?_) (fun h => ?_)
 ·refine G0 ?_; try with_reducible exact tt
 ·simp [hlt'] at h

theorem o_ln (s : Bool) (a : Nat) : Eqn Tryz.prog o_3p [.d (.bool s), .d (.agg [natW a])] [] (.d (.agg [natW a, .bool (s && decide (a ≠ 0))])) [] := by
 refine Eqn.pure o_ec Plain.ok ?_
 have hz := o_o a
 simp only [o_6j]
 cases s with
 | true =>
  refine G0 ?_; try with_reducible exact tt
  refine CallS.pu (hz) (R0 ?_); try with_reducible exact tt
  refine Sub1.of ?_
  simp
  cases a <;> rfl
 | false =>
  refine G0 ?_; try with_reducible exact tt
theorem o_1b (s : Bool) (a : Nat) (z : Int) (hz : z = if s then -(a : Int) else a) : Eqn Tryz.prog o_3p [.d (.bool s), .d (.agg [natW a])] [] (.d (wD z)) [] := by
 have h := o_ln s a
 have e : D.agg [natW a, .bool (s && decide (a ≠ 0))] = wD z := by
  subst hz
  unfold wD
  cases s with
  | true =>
   simp only [if_true, Int.natAbs_neg, Int.natAbs_natCast, Bool.true_and]
   congr 4
   rw [decide_eq_decide]; omega
  | false =>
   simp only [Bool.false_and, Int.natAbs_natCast, Bool.false_eq_true, if_false]
   congr 4
 rw [e] at h
 exact h
theorem o_xu (z : Int) : Eqn Tryz.prog o_79 [.d (wD z)] [] (.d (.agg [natW z.natAbs])) [] := o_47 _ _
theorem o_xv (z : Int) : Eqn Tryz.prog o_74 [.d (wD z)] [] (.d (.bool (decide (z < 0)))) [] := o_48 _ _

theorem o_32 (x y : Int) (hx : size x.natAbs ≤ 400000) (hy : size y.natAbs ≤ 400000) : Eqn Tryz.prog o_cg [.d (wD x), .d (wD y)] [] (.d (wD (x * y))) [] := by
 refine Eqn.pure o_p4 (o_0 _) ?_
 have hm := o_1o x.natAbs y.natAbs (by omega) (by omega)
 have hk := fun s h => o_1b s (x.natAbs * y.natAbs) (x * y) h
 simp only [o_ch, wD] at hk ⊢
 refine G0 ?_; try with_reducible exact tt
 refine CallS.pu (hm) (R0 ?_); try with_reducible exact tt
 have e : x * y = if (decide (x < 0) != decide (y < 0)) = true then -((x.natAbs * y.natAbs : Nat) : Int) else ((x.natAbs * y.natAbs : Nat) : Int) := by
  rw [Int.natCast_mul]
  by_cases h1 : x < 0 <;> by_cases h2 : y < 0 <;> simp only [h1, h2, decide_true, decide_false]
  ·rw [if_neg (by decide), Int.ofNat_natAbs_of_nonpos (by omega), Int.ofNat_natAbs_of_nonpos (by omega), Int.neg_mul_neg]
  ·rw [if_pos (by decide), Int.ofNat_natAbs_of_nonpos (by omega), Int.natAbs_of_nonneg (by omega), Int.neg_mul, Int.neg_neg]
  ·rw [if_pos (by decide), Int.ofNat_natAbs_of_nonpos (a := y) (by omega), Int.natAbs_of_nonneg (by omega), Int.mul_neg, Int.neg_neg]
  ·rw [if_neg (by decide), Int.natAbs_of_nonneg (by omega), Int.natAbs_of_nonneg (by omega)]
 replace hk := hk _ e
 refine CallS.pu (hk) (R0 ?_); try with_reducible exact tt

theorem o_xw (x : Int) : Eqn Tryz.prog o_hh [.d (wD x)] [] (.d (wD (-x))) [] := by
 refine Eqn.pure o_rs (o_0 _) ?_
 have hk := o_1b (!decide (x < 0)) x.natAbs (-x) (by
  by_cases h : x < 0
  ·simp only [h, decide_true, Bool.not_true, Bool.false_eq_true, if_false]; omega
  ·simp only [h, decide_false, Bool.not_false, if_true]; omega)
 simp only [o_hi, wD] at hk ⊢
 refine G0 ?_; try with_reducible exact tt
 refine CallS.pu (hk) (R0 ?_); try with_reducible exact tt

theorem o_xx (x y : Int) (hx : size x.natAbs ≤ 400000) (hy : size y.natAbs ≤ 400000) : Eqn Tryz.prog o_hq [.d (wD x), .d (wD y)] [] (.d (wD (x + y))) [] := by
 refine Eqn.pure o_rw (o_0 _) ?_
 by_cases hs : decide (x < 0) = decide (y < 0)
 ·have ha := o_1m x.natAbs y.natAbs (by omega) (by omega)
  have hk := o_1b (decide (x < 0)) (x.natAbs + y.natAbs) (x + y) (by
   rw [decide_eq_decide] at hs
   by_cases h : x < 0
   ·rw [if_pos (by simpa using h)]; omega
   ·rw [if_neg (by simpa using h)]; omega)
  simp only [o_3y, wD] at hk ⊢
  generalize decide (x < 0) = sx at *
  generalize decide (y < 0) = sy at *
  subst hs
  refine G0 ?_; try with_reducible exact tt
  refine AW.cond rfl (fun h => ?_) (fun h => ?_)
  ·refine G0 ?_; try with_reducible exact tt
   refine CallS.pu (ha) (R0 ?_); try with_reducible exact tt
   refine CallS.pu (hk) (R0 ?_); try with_reducible exact tt
  ·simp at h
 ·have hs' : ¬ (x < 0 ↔ y < 0) := fun h => hs (decide_eq_decide.2 h)
  by_cases hle : y.natAbs ≤ x.natAbs
  ·have ha := o_2t x.natAbs y.natAbs (by omega) hle
   have hk := o_1b (decide (x < 0)) (x.natAbs - y.natAbs) (x + y) (by
    by_cases h : x < 0
    ·rw [if_pos (by simpa using h)]; omega
    ·rw [if_neg (by simpa using h)]; omega)
   simp only [o_3y, wD] at hk ⊢
   generalize decide (x < 0) = sx at *
   generalize decide (y < 0) = sy at *
   have hs2 : (sx == sy) = false := by simpa using hs
   refine G1 (fs hs2 hs) ?_; try with_reducible exact tt
   refine AW.cond rfl (fun h => ?_) (fun h => ?_)
   ·simp [hs2, hs] at h
   ·refine G0 ?_; try with_reducible exact tt
    refine CallS.pu (ha) (R0 ?_); try with_reducible exact tt
    refine AW.cond rfl (fun h => ?_) (fun h => ?_)
    ·refine G0 ?_; try with_reducible exact tt
     refine CallS.pu (hk) (R0 ?_); try with_reducible exact tt
    ·simp at h
  ·have hb := o_xt x.natAbs y.natAbs (by omega) (by omega) (by omega)
   have ha := o_2t y.natAbs x.natAbs (by omega) (by omega)
   have hk := o_1b (decide (y < 0)) (y.natAbs - x.natAbs) (x + y) (by
    by_cases h : y < 0
    ·rw [if_pos (by simpa using h)]; omega
    ·rw [if_neg (by simpa using h)]; omega)
   simp only [o_3y, wD] at hk ⊢
   generalize decide (x < 0) = sx at *
   generalize decide (y < 0) = sy at *
   have hs2 : (sx == sy) = false := by simpa using hs
   refine G1 (fs hs2 hs) ?_; try with_reducible exact tt
   refine AW.cond rfl (fun h => ?_) (fun h => ?_)
   ·simp [hs2, hs] at h
   ·refine G0 ?_; try with_reducible exact tt
    refine CallS.pu (hb) (R0 ?_); try with_reducible exact tt
    refine AW.cond rfl (fun h => ?_) (fun h => ?_)
    ·simp at h
    ·refine G0 ?_; try with_reducible exact tt
     refine CallS.pu (ha) (R0 ?_); try with_reducible exact tt
     refine CallS.pu (hk) (R0 ?_); try with_reducible exact tt

def cmpI (x y : Int) : Int := if x < y then -1 else if y < x then 1 else 0
theorem o_xy (x y : Int) (hx : size x.natAbs ≤ 900000) (hy : size y.natAbs ≤ 900000) : Eqn Tryz.prog o_ce [.d (wD x), .d (wD y)] [] (.d (.int .i64 (cmpI x y))) [] := by
 refine Eqn.pure o_p3 (o_0 _) ?_
 have h1 := o_s y.natAbs x.natAbs (by omega) (by omega)
 have h2 := o_s x.natAbs y.natAbs (by omega) (by omega)
 simp only [o_cf, wD]
 by_cases hx0 : x < 0 <;> by_cases hy0 : y < 0
 ·have e : cmpI x y = cmpZ y.natAbs x.natAbs := by
   unfold cmpI cmpZ
   split <;> split <;> first | omega | (split <;> omega)
  rw [← e] at h1
  simp only [hx0, hy0, decide_true, decide_false]
  refine G0 ?_; try with_reducible exact tt
  refine AW.cond rfl (fun h => ?_) (fun h => ?_)
  ·refine G0 ?_; try with_reducible exact tt
   refine CallS.pu (h1) (R0 ?_); try with_reducible exact tt
  ·simp at h
 ·have e : cmpI x y = -1 := by unfold cmpI; rw [if_pos (by omega)]
  rw [e]
  simp only [hx0, hy0, decide_true, decide_false]
  refine G0 ?_; try with_reducible exact tt
  refine AW.cond rfl (fun h => ?_) (fun h => ?_)
  ·simp at h
  refine G0 ?_; try with_reducible exact tt
  refine AW.cond rfl (fun h => ?_) (fun h => ?_)
  ·refine G0 ?_; try with_reducible exact tt
  ·simp at h
 ·have e : cmpI x y = 1 := by unfold cmpI; rw [if_neg (by omega), if_pos (by omega)]
  rw [e]
  simp only [hx0, hy0, decide_true, decide_false]
  refine G0 ?_; try with_reducible exact tt
  refine AW.cond rfl (fun h => ?_) (fun h => ?_)
  ·simp at h
  refine G0 ?_; try with_reducible exact tt
  refine AW.cond rfl (fun h => ?_) (fun h => ?_)
  ·simp at h
  refine G0 ?_; try with_reducible exact tt
  refine AW.cond rfl (fun h => ?_) (fun h => ?_)
  ·refine G0 ?_; try with_reducible exact tt
  ·simp at h
 ·have e : cmpI x y = cmpZ x.natAbs y.natAbs := by
   unfold cmpI cmpZ
   split <;> split <;> first | omega | (split <;> omega)
  rw [← e] at h2
  simp only [hx0, hy0, decide_true, decide_false]
  refine G0 ?_; try with_reducible exact tt
  refine AW.cond rfl (fun h => ?_) (fun h => ?_)
  ·simp at h
  refine G0 ?_; try with_reducible exact tt
  refine AW.cond rfl (fun h => ?_) (fun h => ?_)
  ·simp at h
  refine G0 ?_; try with_reducible exact tt
  refine AW.cond rfl (fun h => ?_) (fun h => ?_)
  ·simp at h
  refine G0 ?_; try with_reducible exact tt
  refine CallS.pu (h2) (R0 ?_); try with_reducible exact tt
end
end Go.Proofs.YtijbgbpjionfjaaGreatDoor.Am
namespace Go.Proofs.YtijbgbpjionfjaaGreatDoor.Am
section
open Go.RowKit
theorem o_52 (z : Int) (d : Nat) (hd : 0 < d) (hz : size z.natAbs ≤ 900000) (hds : size d ≤ 900000) : Eqn Tryz.prog o_hd [.d (wD z), .d (.agg [natW d])] [] (.d (rD (mkRat z d))) [] := by
 refine Eqn.pure o_rq (o_0 _) ?_
 obtain ⟨p1, p2, p3⟩ := o_95 z d hd
 have hg0 : 0 < Nat.gcd z.natAbs d := Nat.gcd_pos_of_pos_right _ hd
 have hgs : size (Nat.gcd z.natAbs d) ≤ 900000 := Nat.le_trans (o_b (Nat.gcd_le_right _ hd)) hds
 have h1 := o_xs z.natAbs d hz hds
 have h2 := o_94 z.natAbs (Nat.gcd z.natAbs d) hz hg0 hgs
 have h3 := o_94 d (Nat.gcd z.natAbs d) hds hg0 hgs
 have hdp : 0 < d / Nat.gcd z.natAbs d := Nat.div_pos (Nat.gcd_le_right _ hd) hg0
 have hdq : size (d / Nat.gcd z.natAbs d) ≤ 900000 := Nat.le_trans (o_b (Nat.div_le_self _ _)) hds
 have h4 := o_2t (d / Nat.gcd z.natAbs d) 1 (by omega) hdp
 have hab := o_xu z
 have hng := o_xv z
 have hk := o_ln (decide (z < 0)) (z.natAbs / Nat.gcd z.natAbs d)
 have hsg : (decide (z < 0) && decide (z.natAbs / Nat.gcd z.natAbs d ≠ 0)) = decide ((mkRat z d).num < 0) := by
  rw [Bool.eq_iff_iff]
  simp only [Bool.and_eq_true, decide_eq_true_eq, p3]
  rw [← p1]
  constructor
  ·intro h; exact h.1
  ·intro h
   have := p3.2 h
   exact ⟨h, by omega⟩
 rw [hsg, ← p1] at hk
 rw [← p1] at h2
 rw [← p2] at h3 h4
 simp only [o_he, rD, wD] at hab hng ⊢
 refine G0 ?_; try with_reducible exact tt
 refine CallS.pu (hab) (R0 ?_); try with_reducible exact tt
 refine CallS.pu (h1) (R0 ?_); try with_reducible exact tt
 refine CallS.pu (hab) (R0 ?_); try with_reducible exact tt
 refine CallS.pu (h2) (R0 ?_); try with_reducible exact tt
 refine CallS.pu (h3) (R0 ?_); try with_reducible exact tt
 refine CallS.pf 8 1 ⟨28, _⟩ [.int .u64 (1 : Nat)] (o_h [1] (o_i (by omega)) (by simp)) (by first | rfl | (simp; done)) (R0 ?_); try with_reducible exact tt
 refine CallS.pu (h4) (R0 ?_); try with_reducible exact tt
 refine CallS.pu (hng) (R0 ?_); try with_reducible exact tt
 refine CallS.pu (hk) (R0 ?_); try with_reducible exact tt

theorem o_2a (q : Rat) (h : size q.den ≤ 900000) : Eqn Tryz.prog o_6c [.d (rD q)] [] (.d (.agg [natW q.den])) [] := by
 have hp := q.den_pos
 have := o_t1 q.num.natAbs (q.den - 1) (decide (q.num < 0)) (Nat.le_trans (o_b (Nat.sub_le _ _)) (by omega))
 rw [show q.den - 1 + 1 = q.den by omega] at this
 exact this
theorem o_53 (q : Rat) (h : size q.den ≤ 900000) : Eqn Tryz.prog o_ci [.d (rD q)] [] (.d (wD q.den)) [] := by
 refine Eqn.pure o_p5 (o_0 _) ?_
 have h1 := o_2a q h
 have h2 := o_1b false q.den (q.den : Int) rfl
 simp only [o_cj, rD, wD] at h1 h2 ⊢
 refine G0 ?_; try with_reducible exact tt
 refine CallS.pu (h1) (R0 ?_); try with_reducible exact tt
 refine CallS.pu (h2) (R0 ?_); try with_reducible exact tt

def RS (q : Rat) (N : Nat) : Prop := size q.num.natAbs ≤ N ∧ size q.den ≤ N
theorem RS.le {q : Rat} {N M : Nat} (h : RS q N) (hm : N ≤ M) : RS q M := ⟨Nat.le_trans h.1 hm, Nat.le_trans h.2 hm⟩
theorem RS.mk' {z : Int} {d N : Nat} (hd : 0 < d) (h1 : size z.natAbs ≤ N) (h2 : size d ≤ N) : RS (mkRat z d) N := by
 obtain ⟨p1, p2, -⟩ := o_95 z d hd
 refine ⟨?_, ?_⟩
 ·rw [p1]; exact Nat.le_trans (o_b (Nat.div_le_self _ _)) h1
 ·rw [p2]; exact Nat.le_trans (o_b (Nat.div_le_self _ _)) h2
theorem RS.mul {x y : Rat} {N M : Nat} (hx : RS x N) (hy : RS y M) : RS (x * y) (N + M) := by
 rw [o_lk]
 refine RS.mk' (Nat.mul_pos x.den_pos y.den_pos) ?_ ?_
 ·rw [Int.natAbs_mul]; have := o_j x.num.natAbs y.num.natAbs; have := hx.1; have := hy.1; omega
 ·have := o_j x.den y.den; have := hx.2; have := hy.2; omega
theorem RS.add {x y : Rat} {N M : Nat} (hx : RS x N) (hy : RS y M) : RS (x + y) (N + M + 1) := by
 rw [o_lj]
 refine RS.mk' (Nat.mul_pos x.den_pos y.den_pos) ?_ ?_
 ·have h1 := o_b (Int.natAbs_add_le (x.num * y.den) (y.num * x.den))
  have h2 := o_lm (x.num * y.den).natAbs (y.num * x.den).natAbs
  rw [Int.natAbs_mul, Int.natAbs_mul, Int.natAbs_natCast, Int.natAbs_natCast] at *
  have h3 := o_j x.num.natAbs y.den
  have h4 := o_j y.num.natAbs x.den
  have := hx.1; have := hy.1; have := hx.2; have := hy.2
  omega
 ·have := o_j x.den y.den; have := hx.2; have := hy.2; omega
theorem RS.neg {x : Rat} {N : Nat} (hx : RS x N) : RS (-x) N := by
 refine ⟨?_, ?_⟩
 ·rw [Rat.neg_num, Int.natAbs_neg]; exact hx.1
 ·rw [Rat.neg_den]; exact hx.2
theorem RS.sub {x y : Rat} {N M : Nat} (hx : RS x N) (hy : RS y M) : RS (x - y) (N + M + 1) := by
 rw [Rat.sub_eq_add_neg]; exact hx.add hy.neg

theorem o_xz (x y : Rat) (hx : RS x 100000) (hy : RS y 100000) : Eqn Tryz.prog o_h2 [.d (rD x), .d (rD y)] [] (.d (rD (x * y))) [] := by
 refine Eqn.pure o_rk (o_0 _) ?_
 have h1 := o_32 x.num y.num (by have := hx.1; omega) (by have := hy.1; omega)
 have h2 := o_2a x (by have := hx.2; omega)
 have h3 := o_2a y (by have := hy.2; omega)
 have h4 := o_1o x.den y.den (by have := hx.2; omega) (by have := hy.2; omega)
 have h5 := o_52 (x.num * y.num) (x.den * y.den) (Nat.mul_pos x.den_pos y.den_pos) (by rw [Int.natAbs_mul]; have := o_j x.num.natAbs y.num.natAbs; have := hx.1; have := hy.1; omega) (by have := o_j x.den y.den; have := hx.2; have := hy.2; omega)
 rw [← o_lk] at h5
 simp only [o_h3, rD, wD] at h1 h2 h3 h5 ⊢
 refine G0 ?_; try with_reducible exact tt
 refine CallS.pu (h1) (R0 ?_); try with_reducible exact tt
 refine CallS.pu (h2) (R0 ?_); try with_reducible exact tt
 refine CallS.pu (h3) (R0 ?_); try with_reducible exact tt
 refine CallS.pu (h4) (R0 ?_); try with_reducible exact tt
 refine CallS.pu (h5) (R0 ?_); try with_reducible exact tt

theorem o_y0 (x y : Rat) (hx : RS x 100000) (hy : RS y 100000) : Eqn Tryz.prog o_hf [.d (rD x), .d (rD y)] [] (.d (rD (x + y))) [] := by
 refine Eqn.pure o_rr (o_0 _) ?_
 have x1 := hx.1; have x2 := hx.2; have y1 := hy.1; have y2 := hy.2
 have s1 := o_j x.num.natAbs y.den
 have s2 := o_j y.num.natAbs x.den
 have e1 : (x.num * (y.den : Int)).natAbs = x.num.natAbs * y.den := by rw [Int.natAbs_mul, Int.natAbs_natCast]
 have e2 : (y.num * (x.den : Int)).natAbs = y.num.natAbs * x.den := by rw [Int.natAbs_mul, Int.natAbs_natCast]
 have h1 := o_32 x.num y.den (by omega) (by rw [Int.natAbs_natCast]; omega)
 have h1' := o_32 y.num x.den (by omega) (by rw [Int.natAbs_natCast]; omega)
 have h2 := o_2a x (by omega)
 have h3 := o_2a y (by omega)
 have h2' := o_53 x (by omega)
 have h3' := o_53 y (by omega)
 have h4 := o_1o x.den y.den (by omega) (by omega)
 have h6 := o_xx (x.num * y.den) (y.num * x.den) (by rw [e1]; omega) (by rw [e2]; omega)
 have h5 := o_52 (x.num * y.den + y.num * x.den) (x.den * y.den) (Nat.mul_pos x.den_pos y.den_pos) (by
  have h1 := o_b (Int.natAbs_add_le (x.num * y.den) (y.num * x.den))
  have h2 := o_lm (x.num * y.den).natAbs (y.num * x.den).natAbs
  rw [e1, e2] at *
  omega) (by have := o_j x.den y.den; omega)
 rw [← o_lj] at h5
 simp only [o_hg, rD] at h2 h3 h2' h3' h5 ⊢
 generalize hz1 : x.num * (y.den : Int) = z1 at *
 generalize hz2 : y.num * (x.den : Int) = z2 at *
 simp only [wD] at h1 h1' h2' h3' h5 h6
 refine G0 ?_; try with_reducible exact tt
 refine CallS.pu (h3') (R0 ?_); try with_reducible exact tt
 refine CallS.pu (h1) (R0 ?_); try with_reducible exact tt
 refine CallS.pu (h2') (R0 ?_); try with_reducible exact tt
 refine CallS.pu (h1') (R0 ?_); try with_reducible exact tt
 refine CallS.pu (h6) (R0 ?_); try with_reducible exact tt
 refine CallS.pu (h2) (R0 ?_); try with_reducible exact tt
 refine CallS.pu (h3) (R0 ?_); try with_reducible exact tt
 refine CallS.pu (h4) (R0 ?_); try with_reducible exact tt
 refine CallS.pu (h5) (R0 ?_); try with_reducible exact tt

theorem o_y1 (x y : Rat) (hx : RS x 100000) (hy : RS y 100000) : Eqn Tryz.prog o_h4 [.d (rD x), .d (rD y)] [] (.d (rD (x - y))) [] := by
 refine Eqn.pure o_rl (o_0 _) ?_
 have h1 := o_xw y.num
 have h2 := o_y0 x (-y) hx hy.neg
 rw [← Rat.sub_eq_add_neg] at h2
 simp only [o_h5, rD, wD, Rat.neg_num, Rat.neg_den] at h1 h2 ⊢
 obtain ⟨w, hw⟩ : ∃ w, D.bool (decide (-y.num < 0)) = w := ⟨_, rfl⟩
 obtain ⟨u, hu⟩ : ∃ u, natW (-y.num).natAbs = u := ⟨_, rfl⟩
 rw [hu, hw] at h1 h2
 clear hu hw
 refine G0 ?_; try with_reducible exact tt
 refine CallS.pu (h1) (R0 ?_); try with_reducible exact tt
 refine CallS.pu (h2) (R0 ?_); try with_reducible exact tt

def cmpQ (x y : Rat) : Int := if x < y then -1 else if y < x then 1 else 0
theorem o_lo (x y : Rat) (hx : RS x 100000) (hy : RS y 100000) : Eqn Tryz.prog o_ba [.d (rD x), .d (rD y)] [] (.d (.int .i64 (cmpQ x y))) [] := by
 refine Eqn.pure o_oh (o_0 _) ?_
 have x1 := hx.1; have x2 := hx.2; have y1 := hy.1; have y2 := hy.2
 have s1 := o_j x.num.natAbs y.den
 have s2 := o_j y.num.natAbs x.den
 have e1 : (x.num * (y.den : Int)).natAbs = x.num.natAbs * y.den := by rw [Int.natAbs_mul, Int.natAbs_natCast]
 have e2 : (y.num * (x.den : Int)).natAbs = y.num.natAbs * x.den := by rw [Int.natAbs_mul, Int.natAbs_natCast]
 have h1 := o_32 x.num y.den (by omega) (by rw [Int.natAbs_natCast]; omega)
 have h1' := o_32 y.num x.den (by omega) (by rw [Int.natAbs_natCast]; omega)
 have h2' := o_53 x (by omega)
 have h3' := o_53 y (by omega)
 have h6 := o_xy (x.num * y.den) (y.num * x.den) (by rw [e1]; omega) (by rw [e2]; omega)
 have e : cmpI (x.num * y.den) (y.num * x.den) = cmpQ x y := by
  have a := o_ll x y
  have b := o_ll y x
  unfold cmpI cmpQ
  by_cases h : x < y
  ·rw [if_pos h, if_pos (a.1 h)]
  ·rw [if_neg h, if_neg (fun q => h (a.2 q))]
   by_cases h2 : y < x
   ·rw [if_pos h2, if_pos (b.1 h2)]
   ·rw [if_neg h2, if_neg (fun q => h2 (b.2 q))]
 rw [e] at h6
 simp only [o_bb, rD] at h2' h3' ⊢
 generalize hz1 : x.num * (y.den : Int) = z1 at *
 generalize hz2 : y.num * (x.den : Int) = z2 at *
 simp only [wD] at h1 h1' h2' h3' h6
 refine G0 ?_; try with_reducible exact tt
 refine CallS.pu (h3') (R0 ?_); try with_reducible exact tt
 refine CallS.pu (h1) (R0 ?_); try with_reducible exact tt
 refine CallS.pu (h2') (R0 ?_); try with_reducible exact tt
 refine CallS.pu (h1') (R0 ?_); try with_reducible exact tt
 refine CallS.pu (h6) (R0 ?_); try with_reducible exact tt

theorem o_y2 {I : Nat → Prop} {w : World} {v : Value} (h : D.rep I w .nilsl v) : D.rep I w (natW 0) v := by
 have := Sub1.nil (⟨fun _ => none, I, w⟩ : Mem) v (by rw [V.rep_d]; exact h)
 rw [V.rep_d] at this
 exact this
theorem Sub1.rat0 {x y : D} : Sub1 (.d (.agg [x, y, .nilsl])) (.d (.agg [x, y, natW 0])) := fun m v k => by
 rw [V.rep_d] at k ⊢
 unfold D.rep at k ⊢
 obtain ⟨vs, h1, h0, h2⟩ := k
 refine ⟨vs, h1, h0, ?_⟩
 obtain ⟨a, r, rfl, ha, h2⟩ := D.reps_cons'.1 h2
 obtain ⟨b, r, rfl, hb, h2⟩ := D.reps_cons'.1 h2
 obtain ⟨c, r, rfl, hc, h2⟩ := D.reps_cons'.1 h2
 exact D.reps_cons.2 ⟨ha, D.reps_cons.2 ⟨hb, D.reps_cons.2 ⟨o_y2 hc, h2⟩⟩⟩
theorem o_96 (n : Nat) : Eqn Tryz.prog o_d7 [.d (.agg [natW n])] [] (.d (rD (n : Rat))) [] := by
 refine Eqn.pure o_pj (o_0 _) ?_
 have h1 := o_1b false n (n : Int) rfl
 have e : rD (n : Rat) = .agg [natW n, .bool false, natW 0] := by
  unfold rD
  rw [Rat.num_natCast, Rat.den_natCast, Int.natAbs_natCast]
  congr 4
 rw [e]
 have e2 : wD (n : Int) = .agg [natW n, .bool false] := by
  unfold wD
  rw [Int.natAbs_natCast]
  congr 4
 rw [e2] at h1
 simp only [o_d8]
 refine G0 ?_; try with_reducible exact tt
 refine CallS.pu (h1) (R0 ?_); try with_reducible exact tt
 exact Sub1.rat0
end
end Go.Proofs.YtijbgbpjionfjaaGreatDoor.Am
namespace Go.Proofs.YtijbgbpjionfjaaGreatDoor.Am
section
open Go.RowKit
theorem o_lp (m : Nat) (hm : m ≤ 4611686018427387904) : bits BinOp.and IntKind.i64 (m : Int) 1 = ((m % 2 : Nat) : Int) := by
 show IntKind.i64.wrap (((BitVec.ofInt 64 (m : Int)) &&& (BitVec.ofInt 64 (1 : Int))).toNat : Int) = _
 have h1 : (BitVec.ofInt 64 (1 : Int)).toNat = 1 := by decide
 rw [BitVec.toNat_and, h1, BitVec.ofInt_natCast, BitVec.toNat_ofNat, Nat.mod_eq_of_lt (by omega), Nat.and_one_is_mod]
 exact w64 (by omega) (by omega)

theorem o_lq {r x m T : Nat} (h : r * x ^ m = T) : (if m % 2 = 1 then r * x else r) * (x * x) ^ (m / 2) = T := by
 have e : x ^ m = (x * x) ^ (m / 2) * x ^ (m % 2) := by
  rw [← Nat.pow_two, ← Nat.pow_mul, ← Nat.pow_add, Nat.div_add_mod]
 rw [← h, e]
 rcases Nat.mod_two_eq_zero_or_one m with h2 | h2
 ·rw [h2, if_neg (by omega)]; simp
 ·rw [h2, if_pos rfl, Nat.pow_one, Nat.mul_assoc, Nat.mul_comm x]
theorem o_lr {r x m T : Nat} (h : r * x ^ m = T) (hm : 0 < m) (hx : 1 ≤ x) (hr : 1 ≤ r) : x ≤ T ∧ r ≤ T := by
 have h1 : 1 ≤ x ^ m := Nat.pow_pos hx
 have h2 : x ≤ x ^ m := by
  calc x = x ^ 1 := (Nat.pow_one x).symm
   _ ≤ x ^ m := Nat.pow_le_pow_right hx hm
 constructor
 ·rw [← h]; exact Nat.le_trans h2 (Nat.le_mul_of_pos_left _ hr)
 ·rw [← h]; exact Nat.le_mul_of_pos_right _ h1

set_option maxHeartbeats 2000000 in
theorem o_ls (a n : Nat) (hn : n ≤ 8192) (hb : bitsN a ≤ 1 ∨ n ≤ 8192 / bitsN a) (has : size a ≤ 129) : Eqn Tryz.prog o_ha [.d (.agg [natW a]), .d (.int .i64 n)] [] (.tup [.d (.agg [natW (a ^ n)]), .d (.int .i64 0)]) [] := by
 refine Eqn.pure o_ro Plain.ok ?_
 have hbits := o_jn a (by omega)
 have hof : Eqn Tryz.prog o_3q [.d (.sl 1 [.int .u64 (1 : Nat)])] [] (.d (.agg [natW 1])) [] := by
  have := o_h [1] (o_i (by omega)) (by simp)
  simpa [W, wval] using this
 obtain ⟨q, hq⟩ : ∃ q, bitsN a = q := ⟨_, rfl⟩
 simp only [o_hb]
 have hn0 : ¬ (n : Int) < 0 := by omega
 rw [hq] at hbits hb
 obtain ⟨T, hT⟩ : ∃ T, a ^ n = T := ⟨_, rfl⟩
 have hTs : size T ≤ 129 := by
  rw [← hT]
  by_cases h1 : q ≤ 1
  ·have : a ≤ 1 := by have := o_t a; rw [hq] at this; have := Nat.pow_le_pow_right (n := 2) (by omega) h1; omega
   have h2 : a ^ n ≤ 1 := by have := Nat.pow_le_pow_left this n; rwa [Nat.one_pow] at this
   have := o_b h2
   have := o_6 (x := 1) (by omega)
   omega
  ·refine o_8x (n := q * n + 1) ?_ ?_
   ·rw [Nat.pow_succ]
    have h2 := o_t a
    rw [hq] at h2
    have h3 : a ^ n ≤ (2 ^ q) ^ n := Nat.pow_le_pow_left (Nat.le_of_lt h2) n
    rw [← Nat.pow_mul] at h3
    have := Nat.two_pow_pos (q * n)
    omega
   ·have h2 : n ≤ 8192 / q := hb.resolve_left h1
    rw [Nat.le_div_iff_mul_le (by omega)] at h2
    rw [Nat.mul_comm] at h2
    omega
 obtain ⟨n', hn', hn2⟩ : ∃ n' : Nat, n' = (if q ≤ 1 then min n 1 else n) ∧ a ^ n' = T := by
  refine ⟨_, rfl, ?_⟩
  by_cases h1 : q ≤ 1
  ·have ha1 : a ≤ 1 := by have := o_t a; rw [hq] at this; have := Nat.pow_le_pow_right (n := 2) (by omega) h1; omega
   rw [if_pos h1, ← hT]
   rcases (by omega : a = 0 ∨ a = 1) with rfl | rfl
   ·rcases Nat.eq_zero_or_pos n with rfl | hp
    ·rfl
    ·rw [Nat.min_eq_right hp, Nat.zero_pow hp]
   ·rw [Nat.one_pow, Nat.one_pow]
  ·rw [if_neg h1, hT]
 rw [hT]
 by_cases h1 : q ≤ 1
 ·rw [if_pos h1] at hn'
  have hq1 : ¬ (1 : Int) < q := by omega
  have hq1n : ¬ 1 < q := by omega
  have hq2 : (q : Int) ≤ 1 := by omega
  have hmin : min (n : Int) 1 = (n' : Int) := by omega
  have hn8 : n' ≤ 8192 := by omega
  have hn1 : 1 < n' → 1 ≤ a ∧ 1 ≤ 1 := fun h => by omega
  refine G1 hn0 ?_; try with_reducible exact tt
  refine AW.cond rfl (fun h => ?_) (fun h => ?_)
  ·simp [hn0] at h
  refine G0 ?_; try with_reducible exact tt
  refine CallS.pu (hbits) (R1 (fs hq1 (fs hq1n h1)) ?_); try with_reducible exact tt
  refine AW.cond rfl (fun h => ?_) (fun h => ?_)
  ·simp at h
  refine AW.skip ?_
  simp
  refine G0 ?_; try with_reducible exact tt
  refine CallS.pf 2 1 ⟨28, _⟩ [.int .u64 (1 : Nat)] (hof) (by first | rfl | (simp; done)) (R0 ?_); try with_reducible exact tt
  refine CallS.pu (hbits) (R1 (fs hq2 h1) ?_); try with_reducible exact tt
  refine AW.cond rfl (fun h => ?_) (fun h => ?_)
  rotate_left
  ·simp [hq2, h1] at h
  refine G1 hmin ?_; try with_reducible exact tt
  refine AW.loopT (α := Nat × Nat × Nat) 4 (fun s => [(1, .d (.int .i64 (s.1 : Nat)))]) (fun s => [(0, ⟨47, [.d (natW s.2.1)]⟩), (3, ⟨47, [.d (natW s.2.2)]⟩)]) (fun s => s.1 ≤ 8192 ∧ s.2.2 * s.2.1 ^ s.1 = T ∧ (0 < s.1 → size s.2.1 ≤ 200 ∧ size s.2.2 ≤ 200) ∧ (1 < s.1 → 1 ≤ s.2.1 ∧ 1 ≤ s.2.2)) (fun s => s.1) (n', a, 1) ?_ ?_ ⟨hn8, by rw [Nat.one_mul]; exact hn2, fun _ => ⟨Nat.le_trans has (by omega), Nat.le_trans (o_6 (x := 1) (by omega)) (by omega)⟩, hn1⟩ ?_ ?_ ?_
  ·simp
  ·simp
  ·simp
  ·simp
  clear hn8 hn1 hn2 hn'
  rintro ⟨m, x, r⟩ ⟨hm8, hT2, hsz, hpos⟩
  simp only at hm8 hT2 hsz hpos
  simp
  by_cases hm0 : m = 0
  ·subst hm0
   rw [Nat.pow_zero, Nat.mul_one] at hT2
   subst hT2
   refine G0 ?_; try with_reducible exact tt
   refine AW.cond rfl (fun h => ?_) (fun h => ?_)
   ·simp at h
   refine AW.exit ?_
   (try (simp -implicitDefEqProofs; try simp (disch := omega) only [w64, wu64]))
   refine G0 ?_; try with_reducible exact tt
  ·have hm1 : (0 : Int) < m := by omega
   have hm2 : 0 < m := by omega
   obtain ⟨sx, sr⟩ := hsz hm2
   have hand := o_lp m (by omega)
   have hm1' := o_1o r x (by omega) (by omega)
   have hm2' := o_1o x x (by omega) (by omega)
   have hdv : (m : Int) / 2 = ((m / 2 : Nat) : Int) := rfl
   have hr := o_lq hT2
   have hnext : (1 < m / 2 → 1 ≤ x * x ∧ 1 ≤ (if m % 2 = 1 then r * x else r)) := fun h => by
    obtain ⟨p1, p2⟩ := hpos (by omega)
    refine ⟨Nat.mul_pos p1 p1, ?_⟩
    split
    ·exact Nat.mul_pos p2 p1
    ·exact p2
   have hnext2 : (0 < m / 2 → size (x * x) ≤ 200 ∧ size (if m % 2 = 1 then r * x else r) ≤ 200) := fun h => by
    obtain ⟨p1, p2⟩ := hpos (by omega)
    have q1 : 1 ≤ x * x := Nat.mul_pos p1 p1
    have q2 : 1 ≤ (if m % 2 = 1 then r * x else r) := by
     split
     ·exact Nat.mul_pos p2 p1
     ·exact p2
    obtain ⟨k1, k2⟩ := o_lr hr h q1 q2
    exact ⟨Nat.le_trans (o_b k1) (by omega), Nat.le_trans (o_b k2) (by omega)⟩
   have hlt2 : m / 2 < m := by omega
   generalize m / 2 = hm at *
   rcases Nat.mod_two_eq_zero_or_one m with h2 | h2
   ·rw [h2] at hand hr hnext hnext2
    rw [if_neg (by omega)] at hr hnext hnext2
    refine G1 (fs hm1 hm2) ?_; try with_reducible exact tt
    refine AW.cond rfl (fun h => ?_) (fun h => ?_)
    rotate_left
    ·simp [hm1, hm2] at h
    refine G1 hand ?_; try with_reducible exact tt
    refine AW.cond rfl (fun h => ?_) (fun h => ?_)
    ·simp at h
    refine G0 ?_; try with_reducible exact tt
    refine CallS.pu (hm2') (R1 hdv ?_); try with_reducible exact tt
    repeat (first | refine AW.seq ?_ | refine AW.block ?_ | (refine AW.reg mix ?_; simp -implicitDefEqProofs [hdv]; try simp (disch := omega) only [w64, wu64]) | (refine need.of (by first | omega | kernel_rfl) ?_) | (refine AW.fin ?_; try simp -implicitDefEqProofs [hdv]))
    (try (simp -implicitDefEqProofs [hdv]; try simp (disch := omega) only [w64, wu64]))
    repeat (first | refine AW.seq ?_ | refine AW.block ?_ | (refine AW.reg mix ?_; simp -implicitDefEqProofs [hdv]; try simp (disch := omega) only [w64, wu64]) | (refine need.of (by first | omega | kernel_rfl) ?_) | (refine AW.fin ?_; try simp -implicitDefEqProofs [hdv]))
    exact ⟨hm, _, _, ⟨by omega, hr, hnext2, hnext⟩, hlt2, by simp, Subs.refl _, Subs.refl _⟩
   ·rw [h2] at hand hr hnext hnext2
    rw [if_pos rfl] at hr hnext hnext2
    refine G1 (fs hm1 hm2) ?_; try with_reducible exact tt
    refine AW.cond rfl (fun h => ?_) (fun h => ?_)
    rotate_left
    ·simp [hm1, hm2] at h
    refine G1 hand ?_; try with_reducible exact tt
    refine AW.cond rfl (fun h => ?_) (fun h => ?_)
    rotate_left
    ·simp at h
    refine G0 ?_; try with_reducible exact tt
    refine CallS.pu (hm1') (R0 ?_); try with_reducible exact tt
    refine CallS.pu (hm2') (R1 hdv ?_); try with_reducible exact tt
    repeat (first | refine AW.seq ?_ | refine AW.block ?_ | (refine AW.reg mix ?_; simp -implicitDefEqProofs [hdv]; try simp (disch := omega) only [w64, wu64]) | (refine need.of (by first | omega | kernel_rfl) ?_) | (refine AW.fin ?_; try simp -implicitDefEqProofs [hdv]))
    (try (simp -implicitDefEqProofs [hdv]; try simp (disch := omega) only [w64, wu64]))
    repeat (first | refine AW.seq ?_ | refine AW.block ?_ | (refine AW.reg mix ?_; simp -implicitDefEqProofs [hdv]; try simp (disch := omega) only [w64, wu64]) | (refine need.of (by first | omega | kernel_rfl) ?_) | (refine AW.fin ?_; try simp -implicitDefEqProofs [hdv]))
    exact ⟨hm, _, _, ⟨by omega, hr, hnext2, hnext⟩, hlt2, by simp, Subs.refl _, Subs.refl _⟩
 ·rw [if_neg h1] at hn'
  rw [hn'] at hn2
  clear hn' n'
  have hq1 : (1 : Int) < q := by omega
  have hq1n : 1 < q := by omega
  have hq2 : ¬ (q : Int) ≤ 1 := by omega
  have hq0 : (q : Int) ≠ 0 := by omega
  have hle : n ≤ 8192 / q := hb.resolve_left h1
  have hdq : IntKind.i64.wrap ((8192 : Int).tdiv q) = ((8192 / q : Nat) : Int) := by
   rw [show (8192 : Int).tdiv q = ((8192 / q : Nat) : Int) from rfl, w64 (by omega) (by have := Nat.div_le_self 8192 q; omega)]
  have ha1 : 1 ≤ a := by
   rcases Nat.eq_zero_or_pos a with rfl | h
   ·exfalso
    have : bitsN 0 ≤ 0 := o_p (by decide)
    omega
   ·exact h
  have hn8 : n ≤ 8192 := hn
  have hn1 : 1 < n → 1 ≤ a ∧ 1 ≤ 1 := fun _ => ⟨ha1, by omega⟩
  generalize 8192 / q = dq at *
  have hle2 : ¬ (dq : Int) < n := by omega
  have hle3 : ¬ dq < n := by omega
  have hn' : True := trivial
  refine G1 hn0 ?_; try with_reducible exact tt
  refine AW.cond rfl (fun h => ?_) (fun h => ?_)
  ·simp [hn0] at h
  refine G0 ?_; try with_reducible exact tt
  refine CallS.pu (hbits) (R1 (fs hq1 hq1n) ?_); try with_reducible exact tt
  refine CallS.pu (hbits) (R1 (fs hq0 (fs hdq (fs hle2 (fs hle3 (fs hq1 hq1n))))) ?_); try with_reducible exact tt
  refine AW.cond rfl (fun h => ?_) (fun h => ?_)
  ·simp [hle2, hle3] at h
  refine AW.skip ?_
  simp
  refine G0 ?_; try with_reducible exact tt
  refine CallS.pf 2 1 ⟨28, _⟩ [.int .u64 (1 : Nat)] (hof) (by first | rfl | (simp; done)) (R0 ?_); try with_reducible exact tt
  refine CallS.pu (hbits) (R1 (fs hq2 h1) ?_); try with_reducible exact tt
  refine AW.cond rfl (fun h => ?_) (fun h => ?_)
  ·simp [hq2, h1] at h
  refine AW.skip ?_
  simp
  refine G0 ?_; try with_reducible exact tt
  refine AW.loopT (α := Nat × Nat × Nat) 4 (fun s => [(1, .d (.int .i64 (s.1 : Nat)))]) (fun s => [(0, ⟨47, [.d (natW s.2.1)]⟩), (3, ⟨47, [.d (natW s.2.2)]⟩)]) (fun s => s.1 ≤ 8192 ∧ s.2.2 * s.2.1 ^ s.1 = T ∧ (0 < s.1 → size s.2.1 ≤ 200 ∧ size s.2.2 ≤ 200) ∧ (1 < s.1 → 1 ≤ s.2.1 ∧ 1 ≤ s.2.2)) (fun s => s.1) (n, a, 1) ?_ ?_ ⟨hn8, by rw [Nat.one_mul]; exact hn2, fun _ => ⟨Nat.le_trans has (by omega), Nat.le_trans (o_6 (x := 1) (by omega)) (by omega)⟩, hn1⟩ ?_ ?_ ?_
  ·simp
  ·simp
  ·simp
  ·simp
  clear hn8 hn1 hn2 hn'
  rintro ⟨m, x, r⟩ ⟨hm8, hT2, hsz, hpos⟩
  simp only at hm8 hT2 hsz hpos
  simp
  by_cases hm0 : m = 0
  ·subst hm0
   rw [Nat.pow_zero, Nat.mul_one] at hT2
   subst hT2
   refine G0 ?_; try with_reducible exact tt
   refine AW.cond rfl (fun h => ?_) (fun h => ?_)
   ·simp at h
   refine AW.exit ?_
   (try (simp -implicitDefEqProofs; try simp (disch := omega) only [w64, wu64]))
   refine G0 ?_; try with_reducible exact tt
  ·have hm1 : (0 : Int) < m := by omega
   have hm2 : 0 < m := by omega
   obtain ⟨sx, sr⟩ := hsz hm2
   have hand := o_lp m (by omega)
   have hm1' := o_1o r x (by omega) (by omega)
   have hm2' := o_1o x x (by omega) (by omega)
   have hdv : (m : Int) / 2 = ((m / 2 : Nat) : Int) := rfl
   have hr := o_lq hT2
   have hnext : (1 < m / 2 → 1 ≤ x * x ∧ 1 ≤ (if m % 2 = 1 then r * x else r)) := fun h => by
    obtain ⟨p1, p2⟩ := hpos (by omega)
    refine ⟨Nat.mul_pos p1 p1, ?_⟩
    split
    ·exact Nat.mul_pos p2 p1
    ·exact p2
   have hnext2 : (0 < m / 2 → size (x * x) ≤ 200 ∧ size (if m % 2 = 1 then r * x else r) ≤ 200) := fun h => by
    obtain ⟨p1, p2⟩ := hpos (by omega)
    have q1 : 1 ≤ x * x := Nat.mul_pos p1 p1
    have q2 : 1 ≤ (if m % 2 = 1 then r * x else r) := by
     split
     ·exact Nat.mul_pos p2 p1
     ·exact p2
    obtain ⟨k1, k2⟩ := o_lr hr h q1 q2
    exact ⟨Nat.le_trans (o_b k1) (by omega), Nat.le_trans (o_b k2) (by omega)⟩
   have hlt2 : m / 2 < m := by omega
   generalize m / 2 = hm at *
   rcases Nat.mod_two_eq_zero_or_one m with h2 | h2
   ·rw [h2] at hand hr hnext hnext2
    rw [if_neg (by omega)] at hr hnext hnext2
    refine G1 (fs hm1 hm2) ?_; try with_reducible exact tt
    refine AW.cond rfl (fun h => ?_) (fun h => ?_)
    rotate_left
    ·simp [hm1, hm2] at h
    refine G1 hand ?_; try with_reducible exact tt
    refine AW.cond rfl (fun h => ?_) (fun h => ?_)
    ·simp at h
    refine G0 ?_; try with_reducible exact tt
    refine CallS.pu (hm2') (R1 hdv ?_); try with_reducible exact tt
    repeat (first | refine AW.seq ?_ | refine AW.block ?_ | (refine AW.reg mix ?_; simp -implicitDefEqProofs [hdv]; try simp (disch := omega) only [w64, wu64]) | (refine need.of (by first | omega | kernel_rfl) ?_) | (refine AW.fin ?_; try simp -implicitDefEqProofs [hdv]))
    (try (simp -implicitDefEqProofs [hdv]; try simp (disch := omega) only [w64, wu64]))
    repeat (first | refine AW.seq ?_ | refine AW.block ?_ | (refine AW.reg mix ?_; simp -implicitDefEqProofs [hdv]; try simp (disch := omega) only [w64, wu64]) | (refine need.of (by first | omega | kernel_rfl) ?_) | (refine AW.fin ?_; try simp -implicitDefEqProofs [hdv]))
    exact ⟨hm, _, _, ⟨by omega, hr, hnext2, hnext⟩, hlt2, by simp, Subs.refl _, Subs.refl _⟩
   ·rw [h2] at hand hr hnext hnext2
    rw [if_pos rfl] at hr hnext hnext2
    refine G1 (fs hm1 hm2) ?_; try with_reducible exact tt
    refine AW.cond rfl (fun h => ?_) (fun h => ?_)
    rotate_left
    ·simp [hm1, hm2] at h
    refine G1 hand ?_; try with_reducible exact tt
    refine AW.cond rfl (fun h => ?_) (fun h => ?_)
    rotate_left
    ·simp at h
    refine G0 ?_; try with_reducible exact tt
    refine CallS.pu (hm1') (R0 ?_); try with_reducible exact tt
    refine CallS.pu (hm2') (R1 hdv ?_); try with_reducible exact tt
    repeat (first | refine AW.seq ?_ | refine AW.block ?_ | (refine AW.reg mix ?_; simp -implicitDefEqProofs [hdv]; try simp (disch := omega) only [w64, wu64]) | (refine need.of (by first | omega | kernel_rfl) ?_) | (refine AW.fin ?_; try simp -implicitDefEqProofs [hdv]))
    (try (simp -implicitDefEqProofs [hdv]; try simp (disch := omega) only [w64, wu64]))
    repeat (first | refine AW.seq ?_ | refine AW.block ?_ | (refine AW.reg mix ?_; simp -implicitDefEqProofs [hdv]; try simp (disch := omega) only [w64, wu64]) | (refine need.of (by first | omega | kernel_rfl) ?_) | (refine AW.fin ?_; try simp -implicitDefEqProofs [hdv]))
    exact ⟨hm, _, _, ⟨by omega, hr, hnext2, hnext⟩, hlt2, by simp, Subs.refl _, Subs.refl _⟩
end
end Go.Proofs.YtijbgbpjionfjaaGreatDoor.Am
namespace Go.Proofs.YtijbgbpjionfjaaGreatDoor.Am
section
open Go.RowKit
theorem o_lt (x : Rat) : ∀ n : Nat, x ^ n = mkRat (x.num ^ n) (x.den ^ n)
 | 0 => by rw [Rat.pow_zero, Int.pow_zero, Nat.pow_zero]; rfl
 | n + 1 => by
  rw [Rat.pow_succ, o_lt x n]
  conv => lhs; rhs; rw [← Rat.mkRat_self x]
  rw [Rat.mkRat_mul_mkRat, Int.pow_succ, Nat.pow_succ]

theorem o_y3 (x : Rat) (n : Nat) (hx : 0 ≤ x.num) (hn : n ≤ 8192) (hb1 : bitsN x.num.natAbs ≤ 1 ∨ n ≤ 8192 / bitsN x.num.natAbs) (hb2 : bitsN x.den ≤ 1 ∨ n ≤ 8192 / bitsN x.den) (hs : RS x 129) (hs1 : size (x.num.natAbs ^ n) ≤ 130) (hs2 : size (x.den ^ n) ≤ 130) :
  Eqn Tryz.prog o_h0 [.d (rD x), .d (.int .i64 n)] [] (.tup [.d (rD (x ^ n)), .d (.int .i64 0)]) [] := by
 refine Eqn.pure o_rj Plain.ok ?_
 have h1 := o_ls x.num.natAbs n hn hb1 hs.1
 have h2 := o_ls x.den n hn hb2 hs.2
 have h3 := o_2a x (by have := hs.2; omega)
 have hneg : decide (x.num < 0) = false := by rw [decide_eq_false_iff_not]; omega
 have hab := o_47 x.num.natAbs (decide (x.num < 0))
 have hng := o_48 x.num.natAbs (decide (x.num < 0))
 have h4 := o_1b false (x.num.natAbs ^ n) (x.num ^ n) (by rw [if_neg (by simp), Int.natCast_pow, Int.natAbs_of_nonneg hx])
 have e : (x.num ^ n).natAbs = x.num.natAbs ^ n := Int.natAbs_pow _ _
 have h5 := o_52 (x.num ^ n) (x.den ^ n) (Nat.pow_pos x.den_pos) (by rw [e]; omega) (by omega)
 rw [← o_lt] at h5
 simp only [o_h1, rD, hneg] at hab hng h3 h5 ⊢
 generalize hz : x.num ^ n = z at *
 simp only [wD] at h4 h5
 refine G0 ?_; try with_reducible exact tt
 refine CallS.pu (hab) (R0 ?_); try with_reducible exact tt
 refine CallS.pu (h1) (R0 ?_); try with_reducible exact tt
 refine AW.cond rfl (fun h => ?_) (fun h => ?_)
 ·simp at h
 refine G0 ?_; try with_reducible exact tt
 refine CallS.pu (h3) (R0 ?_); try with_reducible exact tt
 refine CallS.pu (h2) (R0 ?_); try with_reducible exact tt
 refine AW.cond rfl (fun h => ?_) (fun h => ?_)
 ·simp at h
 refine G0 ?_; try with_reducible exact tt
 refine CallS.pu (hng) (R0 ?_); try with_reducible exact tt
 refine CallS.pu (h4) (R0 ?_); try with_reducible exact tt
 refine CallS.pu (h5) (R0 ?_); try with_reducible exact tt

theorem o_lu (n : Nat) (h : n < 9223372036854775808) : Eqn Tryz.prog o_bc [.d (.int .i64 n)] [] (.d (rD (n : Rat))) [] := by
 refine Eqn.pure o_oi (o_0 _) ?_
 have h1 := o_7t n h
 have e : rD (n : Rat) = .agg [natW n, .bool false, natW 0] := by
  unfold rD
  rw [Rat.num_natCast, Rat.den_natCast, Int.natAbs_natCast]
  congr 4
 rw [e]
 simp only [o_bd]
 refine G0 ?_; try with_reducible exact tt
 refine CallS.pu (h1) (R0 ?_); try with_reducible exact tt
 exact Sub1.rat0

theorem o_y4 (p q : Nat) (hp : p < 9223372036854775808) (hq : q < 9223372036854775808) (h0 : 0 < q) : Eqn Tryz.prog o_gy [.d (.int .i64 p), .d (.int .i64 q)] [] (.tup [.d (rD (mkRat p q)), .d (.int .i64 0)]) [] := by
 have hfr : Eqn Tryz.prog o_h8 [.d (.agg [natW p, .bool false]), .d (.agg [natW q, .bool false])] [] (.tup [.d (rD (mkRat p q)), .d (.int .i64 0)]) [] := by
  refine Eqn.pure o_rn Plain.ok ?_
  have ha := o_47 q false
  have hp1 := o_47 p false
  have hn1 := o_48 p false
  have hn2 := o_48 q false
  have hz := o_o q
  have hq0 : (q == 0) = false := by simp; omega
  rw [hq0] at hz
  have h4 := o_1b false p (p : Int) rfl
  have h5 := o_52 (p : Int) q h0 (by rw [Int.natAbs_natCast]; exact Nat.le_trans (o_6 (by omega)) (by omega)) (Nat.le_trans (o_6 (by omega)) (by omega))
  have e2 : wD (p : Int) = .agg [natW p, .bool false] := by
   unfold wD
   rw [Int.natAbs_natCast]
   congr 4
  rw [e2] at h4 h5
  simp only [o_h9, rD] at h5 ⊢
  refine G0 ?_; try with_reducible exact tt
  refine CallS.pu (ha) (R0 ?_); try with_reducible exact tt
  refine CallS.pu (hz) (R0 ?_); try with_reducible exact tt
  refine AW.cond rfl (fun h => ?_) (fun h => ?_)
  ·simp at h
  refine G0 ?_; try with_reducible exact tt
  refine CallS.pu (hn1) (R0 ?_); try with_reducible exact tt
  refine CallS.pu (hn2) (R0 ?_); try with_reducible exact tt
  refine CallS.pu (hp1) (R0 ?_); try with_reducible exact tt
  refine CallS.pu (h4) (R0 ?_); try with_reducible exact tt
  refine CallS.pu (ha) (R0 ?_); try with_reducible exact tt
  refine CallS.pu (h5) (R0 ?_); try with_reducible exact tt
 refine Eqn.pure o_ri Plain.ok ?_
 have h1 := o_7t p hp
 have h2 := o_7t q hq
 simp only [o_gz, rD] at hfr ⊢
 refine G0 ?_; try with_reducible exact tt
 refine CallS.pu (h1) (R0 ?_); try with_reducible exact tt
 refine CallS.pu (h2) (R0 ?_); try with_reducible exact tt
 refine CallS.pu (hfr) (R0 ?_); try with_reducible exact tt
end
end Go.Proofs.YtijbgbpjionfjaaGreatDoor.Am
namespace Go.Proofs.YtijbgbpjionfjaaGreatDoor.Am
section
open Go.RowKit
end
end Go.Proofs.YtijbgbpjionfjaaGreatDoor.Am
namespace Go.Proofs.YtijbgbpjionfjaaGreatDoor.Am
section
open Go.RowKit
theorem o_y5 (d k : Nat) (hd : d ≤ 8) (hk : k ≤ 1023) : partV d k = ((k % 2 ^ d : Nat) : Int) := by
 have h2 : 2 ^ d ≤ 256 := Nat.pow_le_pow_right (n := 2) (by omega) hd
 have h2' : 0 < 2 ^ d := Nat.two_pow_pos d
 have hm := Nat.mod_lt k h2'
 have e0 : (2 : Int) ^ d = (2 ^ d : Nat) := by rw [Int.natCast_pow]; rfl
 have e1 : IntKind.i64.wrap (2 ^ d : Nat) = (2 ^ d : Nat) := by rw [w64 (by omega) (by omega)]
 have e2 : IntKind.i64.wrap (((2 ^ d : Nat) : Int) - 1) = ((2 ^ d - 1 : Nat) : Int) := by rw [w64 (by omega) (by omega)]; omega
 rw [partV, e0, e1, e2]
 show IntKind.i64.wrap (((BitVec.ofInt 64 (k : Int)) &&& (BitVec.ofInt 64 ((2 ^ d - 1 : Nat) : Int))).toNat : Int) = _
 rw [BitVec.toNat_and, BitVec.ofInt_natCast, BitVec.ofInt_natCast, BitVec.toNat_ofNat, BitVec.toNat_ofNat, Nat.mod_eq_of_lt (show k < 2 ^ 64 by omega), Nat.mod_eq_of_lt (show 2 ^ d - 1 < 2 ^ 64 by omega), Nat.and_two_pow_sub_one_eq_mod]
 exact w64 (by omega) (by omega)

theorem o_y6 (d k : Nat) (hd : d ≤ 8) (hk : k ≤ 1023) :
  Eqn Tryz.prog o_7h [.d (.int .i64 d), .d (.int .i64 k)] [] (.tup [.d (.agg [natW ((2 ^ d + k % 2 ^ d) * 2 ^ (k / 2 ^ d) - 2 ^ d)]), .d (.int .i64 0)]) [] := by
 have h2 : 2 ^ d ≤ 256 := Nat.pow_le_pow_right (n := 2) (by omega) hd
 have hm := Nat.mod_lt k (Nat.two_pow_pos d)
 exact o_uq d k (k % 2 ^ d) hd hk (o_y5 d k hd hk) (by omega)
end
end Go.Proofs.YtijbgbpjionfjaaGreatDoor.Am
namespace Go.Proofs.YtijbgbpjionfjaaGreatDoor.Am
section
open Go.RowKit
def valM (a k : Nat) : Rat := (a : Rat) * ((mkRat ((a + 1 : Nat) : Int) a) ^ k - ((1 : Nat) : Rat))

theorem o_y7 {a : Nat} (ha : 1 ≤ a) : (mkRat ((a + 1 : Nat) : Int) a).num = ((a + 1 : Nat) : Int) ∧ (mkRat ((a + 1 : Nat) : Int) a).den = a := by
 obtain ⟨p1, p2, p3⟩ := o_95 ((a + 1 : Nat) : Int) a (by omega)
 rw [Int.natAbs_natCast] at p1 p2
 have hg : Nat.gcd (a + 1) a = 1 := by
  rw [Nat.gcd_comm, Nat.gcd_rec, show (a + 1) % a = 1 % a by rw [Nat.add_mod_left], ← Nat.gcd_rec, Nat.gcd_one_right]
 rw [hg, Nat.div_one] at p1 p2
 refine ⟨?_, p2⟩
 have : ¬ (mkRat ((a + 1 : Nat) : Int) a).num < 0 := fun h => by have := p3.1 h; omega
 omega

theorem o_54 {x n : Nat} (h : bitsN x * n ≤ 8192) : size (x ^ n) ≤ 129 := by
 refine o_8x (n := bitsN x * n + 1) ?_ (by omega)
 rw [Nat.pow_succ]
 have h3 : x ^ n ≤ (2 ^ bitsN x) ^ n := Nat.pow_le_pow_left (Nat.le_of_lt (o_t x)) n
 rw [← Nat.pow_mul] at h3
 have := Nat.two_pow_pos (bitsN x * n)
 omega

theorem o_lv (a k : Nat) (h1 : 1 ≤ a) (h2 : a ≤ 4096) (hk : k ≤ 1023) (hb : bitsN (a + 1) * k ≤ 8192) : Eqn Tryz.prog o_gt [.d (.int .i64 a), .d (.int .i64 k)] [] (.tup [.d (rD (valM a k)), .d (.int .i64 0)]) [] ∧ RS (valM a k) 300 := by
 obtain ⟨q1, q2⟩ := o_y7 h1
 have hmk := o_y4 (a + 1) a (by omega) (by omega) (by omega)
 obtain ⟨x, hx⟩ : ∃ x, x = mkRat ((a + 1 : Nat) : Int) a := ⟨_, rfl⟩
 have hv : valM a k = (a : Rat) * (x ^ k - ((1 : Nat) : Rat)) := by rw [hx]; rfl
 rw [← hx] at q1 q2 hmk
 have hba : bitsN a ≤ bitsN (a + 1) := o_p (Nat.lt_trans (Nat.lt_succ_self a) (o_t _))
 have hb2 : bitsN a * k ≤ 8192 := Nat.le_trans (Nat.mul_le_mul_right _ hba) hb
 have le8 : ∀ q : Nat, q * k ≤ 8192 → q ≤ 1 ∨ k ≤ 8192 / q := fun q h => by
  by_cases h1 : q ≤ 1
  ·exact .inl h1
  ·right; rw [Nat.le_div_iff_mul_le (by omega), Nat.mul_comm]; exact h
 have hxs : RS x 129 := ⟨by rw [q1, Int.natAbs_natCast]; exact Nat.le_trans (o_6 (by omega)) (by omega), by rw [q2]; exact Nat.le_trans (o_6 (by omega)) (by omega)⟩
 have hpow := o_y3 x k (by omega) (by omega) (by rw [q1, Int.natAbs_natCast]; exact le8 _ hb) (by rw [q2]; exact le8 _ hb2) hxs (by rw [q1, Int.natAbs_natCast]; exact Nat.le_trans (o_54 hb) (by omega)) (by rw [q2]; exact Nat.le_trans (o_54 hb2) (by omega))
 have hps : RS (x ^ k) 129 := ⟨by rw [Rat.num_pow, Int.natAbs_pow, q1, Int.natAbs_natCast]; exact o_54 hb, by rw [Rat.den_pow, q2]; exact o_54 hb2⟩
 have h1s : RS ((1 : Nat) : Rat) 1 := ⟨by rw [Rat.num_natCast]; exact o_6 (by omega), by rw [Rat.den_natCast]; exact o_6 (by omega)⟩
 have has : RS (a : Rat) 1 := ⟨by rw [Rat.num_natCast, Int.natAbs_natCast]; exact o_6 (by omega), by rw [Rat.den_natCast]; exact o_6 (by omega)⟩
 have hsub := o_y1 (x ^ k) ((1 : Nat) : Rat) (hps.le (by omega)) (h1s.le (by omega))
 have hss := RS.sub hps h1s
 have hmul := o_xz (a : Rat) (x ^ k - ((1 : Nat) : Rat)) (has.le (by omega)) (hss.le (by omega))
 refine ⟨?_, by rw [hv]; exact (RS.mul has hss).le (by omega)⟩
 have hoa := o_lu a (by omega)
 have ho1 := o_lu 1 (by omega)
 have hw := o_jg a k
 rw [show wrongM (a : Int) [(k : Int)] = 0 by unfold wrongM; rw [if_pos (by omega), if_pos (by simp [okK]; omega)]] at hw
 have e1 : IntKind.i64.wrap ((a : Int) + 1) = ((a + 1 : Nat) : Int) := by rw [w64 (by omega) (by omega)]; omega
 refine Eqn.pure o_rf Plain.ok ?_
 rw [hv]
 clear hv hxs hps h1s has hss q1 q2 hx
 generalize x ^ k - ((1 : Nat) : Rat) = xd at *
 generalize x ^ k = xk at *
 generalize (a : Rat) * xd = v at *
 generalize (a : Rat) = aq at *
 generalize ((1 : Nat) : Rat) = oq at *
 generalize ha1 : a + 1 = a' at *
 simp only [o_gu, rD] at hmk hpow hsub hmul hoa ho1 ⊢
 refine G0 ?_; try with_reducible exact tt
 refine CallS.pf 1 1 ⟨3, _⟩ [.int .i64 k] (hw) (by first | rfl | (simp [e1]; done)) (R1 e1 ?_); try with_reducible exact tt
 refine AW.cond rfl (fun h => ?_) (fun h => ?_)
 ·simp at h
 refine G1 e1 ?_; try with_reducible exact tt
 refine CallS.pu (hmk) (R0 ?_); try with_reducible exact tt
 refine CallS.pu (hpow) (R0 ?_); try with_reducible exact tt
 refine AW.cond rfl (fun h => ?_) (fun h => ?_)
 ·simp at h
 refine G0 ?_; try with_reducible exact tt
 refine CallS.pu (hoa) (R0 ?_); try with_reducible exact tt
 refine CallS.pu (ho1) (R0 ?_); try with_reducible exact tt
 refine CallS.pu (hsub) (R0 ?_); try with_reducible exact tt
 refine CallS.pu (hmul) (R0 ?_); try with_reducible exact tt
end
end Go.Proofs.YtijbgbpjionfjaaGreatDoor.Am
namespace Go.Proofs.YtijbgbpjionfjaaGreatDoor.Am
section
open Go.RowKit
theorem o_y8 : MethOK Tryz.prog 245 "tallymark/chain.value" o_77 := fun v w => by kernel_rfl
theorem o_y9 : MethOK Tryz.prog 246 "tallymark/chain.value" o_7g := fun v w => by kernel_rfl
theorem o_ya : MethOK Tryz.prog 247 "tallymark/chain.value" o_7l := fun v w => by kernel_rfl

def valF (d k : Nat) : Nat := (2 ^ d + k % 2 ^ d) * 2 ^ (k / 2 ^ d) - 2 ^ d
def valC (k a y : Nat) : Rat := if k = 1 then valM a y else if k = 2 then ((valF a y : Nat) : Rat) else (((placeY a y).value : Nat) : Rat)

theorem o_yb (a k : Nat) (h1 : 1 ≤ a) (h2 : a ≤ 4096) (hk : k ≤ 1023) (hb : bitsN (a + 1) * k ≤ 8192) : Eqn Tryz.prog o_77 [.d (.int .i64 a), .d (.int .i64 k)] [] (.tup [.d (rD (valM a k)), .d (.int .i64 0)]) [] := by
 refine Eqn.pure o_rc Plain.ok ?_
 have h := (o_lv a k h1 h2 hk hb).1
 simp only [o_go, rD] at h ⊢
 refine G0 ?_; try with_reducible exact tt
 refine CallS.pu (h) (R0 ?_); try with_reducible exact tt
theorem o_yc (d k : Nat) (hd : d ≤ 8) (hk : k ≤ 1023) : Eqn Tryz.prog o_7g [.d (.int .i64 d), .d (.int .i64 k)] [] (.tup [.d (rD ((valF d k : Nat) : Rat)), .d (.int .i64 0)]) [] := by
 refine Eqn.pure o_s3 Plain.ok ?_
 have h := o_y6 d k hd hk
 rw [show (2 ^ d + k % 2 ^ d) * 2 ^ (k / 2 ^ d) - 2 ^ d = valF d k from rfl] at h
 have h2 := o_96 (valF d k)
 generalize valF d k = v at *
 simp only [o_i0, rD] at h2 ⊢
 refine G0 ?_; try with_reducible exact tt
 refine CallS.pu (h) (R0 ?_); try with_reducible exact tt
 refine CallS.pu (h2) (R0 ?_); try with_reducible exact tt
theorem o_yd (s k : Nat) (s1 : 1 ≤ s) (s5 : s ≤ 5) (hk : k ≤ 1023) : Eqn Tryz.prog o_7l [.d (.int .i64 s), .d (.int .i64 k)] [] (.tup [.d (rD (((placeY s k).value : Nat) : Rat)), .d (.int .i64 0)]) [] := by
 refine Eqn.pure o_sb Plain.ok ?_
 have h := o_ju s k s1 s5 hk
 have h2 := o_96 (placeY s k).value
 generalize placeY s k = p at *
 simp only [o_ib, rD, plD] at h h2 ⊢
 refine G0 ?_; try with_reducible exact tt
 refine CallS.pu (h) (R0 ?_); try with_reducible exact tt
 refine CallS.pu (h2) (R0 ?_); try with_reducible exact tt

theorem o_lw {a w x : Nat} (h : GoodC 1 a w) (hx : x ≤ 2 ^ w - 1) : bitsN (a + 1) * x ≤ 8192 := by
 obtain ⟨h, -⟩ := h
 rcases h with ⟨-, -, -, h⟩ | ⟨h, -⟩ | ⟨h, -⟩
 ·exact Nat.le_trans (Nat.mul_le_mul_left _ hx) h
 ·omega
 ·omega

theorem o_ye {k a w : Nat} (h : GoodC k a w) (x : Nat) (hx : x ≤ 2 ^ w - 1) : Eqn Tryz.prog o_db [.d (parD k a w), .d (.int .i64 x)] [] (.tup [.d (rD (valC k a x)), .d (.int .i64 0)]) [] := by
 refine Eqn.pure o_pl Plain.ok ?_
 have hat := o_jw k a w h.2.2 x (by omega) (by omega) (o_4f h)
 have hkd := o_2u k a w
 have h10 : 2 ^ w ≤ 2 ^ 10 := Nat.pow_le_pow_right (by omega) h.2.2
 have hx1 : x ≤ 1023 := by omega
 have hb := o_lw (a := a) (w := w) (x := x)
 obtain ⟨hc, -⟩ := h
 simp only [o_dc, parD] at hat ⊢
 rcases hc with ⟨rfl, a1, a2, a3⟩ | ⟨rfl, a1⟩ | ⟨rfl, a1, a2⟩
 ·have hv := o_yb a x a1 a2 hx1 (Nat.le_trans (Nat.mul_le_mul_left _ hx) a3)
  rw [show kindD ((1 : Nat) : Int) a = .ifc 245 (.int .i64 a) from rfl] at hkd
  rw [show valC 1 a x = valM a x from rfl]
  generalize valM a x = v at *
  simp only [rD] at hv ⊢
  refine G0 ?_; try with_reducible exact tt
  refine CallS.pf 2 1 ⟨3, _⟩ [.int .i64 x] (hat) (by first | rfl | (simp; done)) (R0 ?_); try with_reducible exact tt
  refine AW.cond rfl (fun h => ?_) (fun h => ?_)
  ·simp at h
  refine G0 ?_; try with_reducible exact tt
  refine CallS.pu (hkd) (R0 ?_); try with_reducible exact tt
  refine ⟨_, o_y8, ?_⟩
  refine CallS.pu (hv) (R0 ?_); try with_reducible exact tt
  trace_state
 ·have hv := o_yc a x a1 hx1
  rw [show kindD ((2 : Nat) : Int) a = .ifc 246 (.int .i64 a) from rfl] at hkd
  rw [show valC 2 a x = ((valF a x : Nat) : Rat) from rfl]
  generalize ((valF a x : Nat) : Rat) = v at *
  simp only [rD] at hv ⊢
  refine G0 ?_; try with_reducible exact tt
  refine CallS.pf 2 1 ⟨3, _⟩ [.int .i64 x] (hat) (by first | rfl | (simp; done)) (R0 ?_); try with_reducible exact tt
  refine AW.cond rfl (fun h => ?_) (fun h => ?_)
  ·simp at h
  refine G0 ?_; try with_reducible exact tt
  refine CallS.pu (hkd) (R0 ?_); try with_reducible exact tt
  refine ⟨_, o_y9, ?_⟩
  refine CallS.pu (hv) (R0 ?_); try with_reducible exact tt
 ·have hv := o_yd a x a1 a2 hx1
  rw [show kindD ((3 : Nat) : Int) a = .ifc 247 (.int .i64 a) from rfl] at hkd
  rw [show valC 3 a x = (((placeY a x).value : Nat) : Rat) from rfl]
  generalize (((placeY a x).value : Nat) : Rat) = v at *
  simp only [rD] at hv ⊢
  refine G0 ?_; try with_reducible exact tt
  refine CallS.pf 2 1 ⟨3, _⟩ [.int .i64 x] (hat) (by first | rfl | (simp; done)) (R0 ?_); try with_reducible exact tt
  refine AW.cond rfl (fun h => ?_) (fun h => ?_)
  ·simp at h
  refine G0 ?_; try with_reducible exact tt
  refine CallS.pu (hkd) (R0 ?_); try with_reducible exact tt
  refine ⟨_, o_ya, ?_⟩
  refine CallS.pu (hv) (R0 ?_); try with_reducible exact tt
end
end Go.Proofs.YtijbgbpjionfjaaGreatDoor.Am
namespace Go.Proofs.YtijbgbpjionfjaaGreatDoor.Am
section
open Go.RowKit
def SmallR (k a b : Nat) : Prop := k = 4 ∧ 1 ≤ a ∧ a ≤ 8 ∧ b ≤ 3 ∨ k ≠ 4 ∧ GoodS k a b
theorem o_yf {k a b : Nat} (h : SmallR k a b) : GoodR k a b := by
 rcases h with ⟨rfl, h1, h2, h3⟩ | ⟨hk, h⟩
 ·exact .inl ⟨rfl, h1, by omega, by omega⟩
 ·exact .inr ⟨hk, o_vi h⟩

theorem o_yg (k a b : Int) : Eqn Tryz.prog o_c3 [.d (parD k a b)] [] (.d (parD k a b)) [] := by
 refine Eqn.pure o_ox Plain.ok ?_
 simp only [o_c4, parD]
 refine G0 ?_; try with_reducible exact tt
theorem o_55 (y : Int) (m n : Nat) (hm : m ≤ 1000000) (hn : n ≤ 1000000) : ∃ (N Y : Nat), bits BinOp.and IntKind.i64 y (m : Int) = N ∧ IntKind.i64.wrap ((n : Int) + 1) = (n : Int) + 1 ∧ (N : Int).tmod ((n : Int) + 1) = Y ∧ Y ≤ n := by
 obtain ⟨N, h1, h2, h3⟩ := o_16 y m (by omega)
 have hY : N % (n + 1) ≤ n := by have := Nat.mod_lt N (show 0 < n + 1 by omega); omega
 refine ⟨N, N % (n + 1), h1, w64 (by omega) (by omega), ?_, hY⟩
 rw [Int.tmod_eq_emod_of_nonneg (by omega)]; norm_cast

theorem o_56 {k a b : Nat} (h : SmallR k a b) (y t : Int) (f : Bool) : ∃ (Y T : Nat) (F : Bool), WellR k a b Y T F ∧ Eqn Tryz.prog o_dv [.d (parD k a b), .d (.agg [.int .i64 y, .int .i64 t, .bool f])] [] (.d (tsD Y T F)) [] := by
 rcases h with ⟨rfl, h1, h2, h3⟩ | ⟨hk, h⟩
 ·obtain ⟨N1, Y, a1, a2, a3, a4⟩ := o_55 y 7 a (by omega) (by omega)
  obtain ⟨N2, T, b1, b2, b3, b4⟩ := o_55 t 3 b (by omega) (by omega)
  replace a1 : bits BinOp.and IntKind.i64 y 7 = N1 := a1
  replace b1 : bits BinOp.and IntKind.i64 t 3 = N2 := b1
  refine ⟨Y, T, f && (T == b), .inl ⟨rfl, a4, b4, by simp⟩, ?_⟩
  refine Eqn.pure o_dw Plain.ok ?_
  have hF : ((T : Int) == (b : Int)) = (T == b) := by rw [Bool.eq_iff_iff]; simp; omega
  simp only [o_6h, parD, tsD]
  generalize (T == b) = F at *
  cases f with
  | true =>
   refine G0B ?_; try with_reducible exact tt
   refine AW.cond rfl (fun h => ?_) (fun h => ?_)
   ·refine G1B (fs a1 (fs a2 (fs a3 (fs b1 (fs b2 (fs b3 hF)))))) ?_; try with_reducible exact tt
   ·simp at h
  | false =>
   refine G0B ?_; try with_reducible exact tt
   refine AW.cond rfl (fun h => ?_) (fun h => ?_)
   ·refine G1B (fs a1 (fs a2 (fs a3 (fs b1 (fs b2 (fs b3 hF)))))) ?_; try with_reducible exact tt
   ·simp at h
 ·have hW : 2 ^ b - 1 ≤ 15 := by have := Nat.pow_le_pow_right (n := 2) (by omega) h.2.2; omega
  have hb2 : 0 < 2 ^ b := Nat.two_pow_pos b
  obtain ⟨N1, Y, a1, a2, a3, a4⟩ := o_55 y 15 (2 ^ b - 1) (by omega) (by omega)
  replace a1 : bits BinOp.and IntKind.i64 y 15 = N1 := a1
  refine ⟨Y, 0, f && (Y == 2 ^ b - 1), .inr ⟨hk, rfl, a4, by simp⟩, ?_⟩
  refine Eqn.pure o_dw Plain.ok ?_
  have hF : ((Y : Int) == ((2 ^ b - 1 : Nat) : Int)) = (Y == 2 ^ b - 1) := by rw [Bool.eq_iff_iff]; simp only [beq_iff_eq]; omega
  have e0 : (2 : Int) ^ b = (2 ^ b : Nat) := by rw [Int.natCast_pow]; rfl
  have hk' : ¬ (k : Int) = 4 := by omega
  have hb64 : b ≤ 64 := by have := h.2.2; omega
  simp only [o_6h, parD, tsD]
  generalize (Y == 2 ^ b - 1) = F at *
  generalize 2 ^ b = S at *
  have e3 : IntKind.i64.wrap (S : Int) = S := w64 (by omega) (by omega)
  have e4 : IntKind.i64.wrap ((S : Int) - 1) = ((S - 1 : Nat) : Int) := by rw [w64 (by omega) (by omega)]; omega
  generalize S - 1 = S1 at *
  cases f with
  | true =>
   refine G1B (fs hk hk') ?_; try with_reducible exact tt
   refine AW.cond rfl (fun h => ?_) (fun h => ?_)
   ·simp [hk'] at h
   ·refine G1B (fs a1 (fs a2 (fs a3 (fs e0 (fs e3 (fs e4 (fs hF hb64))))))) ?_; try with_reducible exact tt
  | false =>
   refine G1B (fs hk hk') ?_; try with_reducible exact tt
   refine AW.cond rfl (fun h => ?_) (fun h => ?_)
   ·simp [hk'] at h
   ·refine G1B (fs a1 (fs a2 (fs a3 (fs e0 (fs e3 (fs e4 (fs hF hb64))))))) ?_; try with_reducible exact tt

theorem o_yh (k a b : Int) : ∃ K A B : Nat, SmallR K A B ∧ ∀ (y t : Int) (f : Bool), ∃ (Y T : Nat) (F : Bool), WellR K A B Y T F ∧ Eqn Tryz.prog o_c2 [.d (parD k a b), .d (.agg [.int .i64 y, .int .i64 t, .bool f])] [] (.tup [.d (parD K A B), .d (tsD Y T F)]) [] := by
 obtain ⟨e1, K, e2, hK, e3⟩ := o_vb k 4 (by omega) (by omega)
 obtain ⟨B1, B2, b1, b2, b3, b4⟩ := o_55 b 255 3 (by omega) (by omega)
 replace b1 : bits BinOp.and IntKind.i64 b 255 = B1 := b1
 replace b3 : (B1 : Int).tmod 4 = B2 := b3
 obtain ⟨B3, d1, d2, d3⟩ := o_16 b 3 (by omega)
 obtain ⟨A1, a1, a2, a3⟩ := o_16 a 3 (by omega)
 obtain ⟨A2, a4, a5, a6⟩ := o_16 a 1 (by omega)
 obtain ⟨A3, a7, a8, a9⟩ := o_16 a 7 (by omega)
 replace a1 : bits BinOp.and IntKind.i64 a 3 = A1 := a1
 replace a4 : bits BinOp.and IntKind.i64 a 1 = A2 := a4
 replace a7 : bits BinOp.and IntKind.i64 a 7 = A3 := a7
 replace d1 : bits BinOp.and IntKind.i64 b 3 = B3 := d1
 have e4 : IntKind.i64.wrap (1 + (B2 : Int)) = ((1 + B2 : Nat) : Int) := by rw [w64 (by omega) (by omega)]; omega
 have hK' : K = 0 ∨ K = 1 ∨ K = 2 ∨ K = 3 := by omega
 rcases hK' with rfl | rfl | rfl | rfl
 ·refine ⟨1, 1 + A1, 1 + B2, .inr ⟨by omega, by omega, by omega, by omega⟩, fun y t f => ?_⟩
  obtain ⟨Y, T, F, hw, hE⟩ := o_56 (k := 1) (a := 1 + A1) (b := 1 + B2) (.inr ⟨by omega, by omega, by omega, by omega⟩) y t f
  refine ⟨Y, T, F, hw, ?_⟩
  refine Eqn.pure o_3n Plain.ok ?_
  simp only [o_2n, parD, tsD] at hE ⊢
  generalize 1 + A1 = XA at *
  generalize 1 + B2 = XB at *
  refine G1B (fs e1 (fs e2 e3)) ?_; try with_reducible exact tt
  refine AW.cond rfl (fun h => ?_) (fun h => ?_)
  ·refine G1B (fs b1 (fs b3 (fs e4 (fs a1 a3)))) ?_; try with_reducible exact tt
   simp at hE
   refine CallS.pu (hE) (R0B ?_); try with_reducible exact tt
  ·simp at h
 ·refine ⟨2, A2, 1 + B2, .inr ⟨by omega, by omega, by omega, by omega⟩, fun y t f => ?_⟩
  obtain ⟨Y, T, F, hw, hE⟩ := o_56 (k := 2) (a := A2) (b := 1 + B2) (.inr ⟨by omega, by omega, by omega, by omega⟩) y t f
  refine ⟨Y, T, F, hw, ?_⟩
  refine Eqn.pure o_3n Plain.ok ?_
  simp only [o_2n, parD, tsD] at hE ⊢
  generalize 1 + B2 = XB at *
  refine G1B (fs e1 (fs e2 e3)) ?_; try with_reducible exact tt
  refine AW.cond rfl (fun h => ?_) (fun h => ?_)
  ·simp at h
  refine G0B ?_; try with_reducible exact tt
  refine AW.cond rfl (fun h => ?_) (fun h => ?_)
  ·refine G1B (fs b1 (fs b3 (fs e4 a4))) ?_; try with_reducible exact tt
   simp at hE
   refine CallS.pu (hE) (R0B ?_); try with_reducible exact tt
  ·simp at h
 ·refine ⟨3, 1 + A2, 1 + B2, .inr ⟨by omega, by omega, by omega, by omega⟩, fun y t f => ?_⟩
  obtain ⟨Y, T, F, hw, hE⟩ := o_56 (k := 3) (a := 1 + A2) (b := 1 + B2) (.inr ⟨by omega, by omega, by omega, by omega⟩) y t f
  refine ⟨Y, T, F, hw, ?_⟩
  refine Eqn.pure o_3n Plain.ok ?_
  simp only [o_2n, parD, tsD] at hE ⊢
  generalize 1 + A2 = XA at *
  generalize 1 + B2 = XB at *
  refine G1B (fs e1 (fs e2 e3)) ?_; try with_reducible exact tt
  refine AW.cond rfl (fun h => ?_) (fun h => ?_)
  ·simp at h
  refine G0B ?_; try with_reducible exact tt
  refine AW.cond rfl (fun h => ?_) (fun h => ?_)
  ·simp at h
  refine G0B ?_; try with_reducible exact tt
  refine AW.cond rfl (fun h => ?_) (fun h => ?_)
  ·refine G1B (fs b1 (fs b3 (fs e4 (fs a4 a6)))) ?_; try with_reducible exact tt
   simp at hE
   refine CallS.pu (hE) (R0B ?_); try with_reducible exact tt
  ·simp at h
 ·refine ⟨4, 1 + A3, B3, .inl ⟨rfl, by omega, by omega, by omega⟩, fun y t f => ?_⟩
  obtain ⟨Y, T, F, hw, hE⟩ := o_56 (k := 4) (a := 1 + A3) (b := B3) (.inl ⟨rfl, by omega, by omega, by omega⟩) y t f
  refine ⟨Y, T, F, hw, ?_⟩
  refine Eqn.pure o_3n Plain.ok ?_
  simp only [o_2n, parD, tsD] at hE ⊢
  generalize 1 + A3 = XA at *
  refine G1B (fs e1 (fs e2 e3)) ?_; try with_reducible exact tt
  refine AW.cond rfl (fun h => ?_) (fun h => ?_)
  ·simp at h
  refine G0B ?_; try with_reducible exact tt
  refine AW.cond rfl (fun h => ?_) (fun h => ?_)
  ·simp at h
  refine G0B ?_; try with_reducible exact tt
  refine AW.cond rfl (fun h => ?_) (fun h => ?_)
  ·simp at h
  ·refine G1B (fs d1 (fs a7 a9)) ?_; try with_reducible exact tt
   simp at hE
   refine CallS.pu (hE) (R0B ?_); try with_reducible exact tt
end
end Go.Proofs.YtijbgbpjionfjaaGreatDoor.Am
namespace Go.Proofs.YtijbgbpjionfjaaGreatDoor.Am
section
open Go.RowKit
end
end Go.Proofs.YtijbgbpjionfjaaGreatDoor.Am
namespace Go.Proofs.YtijbgbpjionfjaaGreatDoor.Am
section
open Go.RowKit
end
end Go.Proofs.YtijbgbpjionfjaaGreatDoor.Am
namespace Go.Proofs.YtijbgbpjionfjaaGreatDoor.Am
section
open Go.RowKit

theorem o_yi {P : Program} {f : FuncId} {c : C} {rs : List RV} {nt : Nat} (hf : fnOf P f = some (c, rs, nt, false)) (vs : Array Value) (w : World) : (callFunc f vs).run P w = .ok (.enter f vs) w := by
 unfold fnOf at hf
 split at hf
 ·rename_i fn hfn
  split at hf
  ·rename_i b hb
   simp only [Option.some.injEq, Prod.mk.injEq] at hf
   obtain ⟨h1, h2, h3, h4⟩ := hf
   have h1 : ¬ fn.name = "runtime.NumGoroutine" := by simpa using h4
   simp [callFunc, hfn, h1, hb]
  ·cases hf
 ·cases hf

abbrev memW (W : World) : Mem := ⟨fun _ => none, fun b => b < W.heap.size, W⟩

theorem law_walk {P : Program} {f : FuncId} {args : List V} {c : C} {rs : List RV} {nt : Nat} (hf : fnOf P f = some (c, rs, nt, false)) (E : Eqn P f args [] (.d (.bool true)) []) {W : World} {vs : List Value} (h : V.reps (memW W) args vs) :
  Calls P f vs.toArray W (fun e W' => e = .returned (.bool true) ∧ Same W W') := by
 rcases E.run (memW W) vs ⟨fun b h => h, fun n b h => by cases h⟩ h (by simp) (fun n i b h => by simp at h) (fun _ _ => rfl) with ⟨v, h1, _⟩ | ⟨_, h2⟩
 ·rw [o_yi hf] at h1; cases h1
 ·refine h2.mono ?_
  rintro e w' ⟨v, m', rfl, rfl, hE⟩
  have hv := hE.rep
  rw [V.rep_d] at hv
  unfold D.rep at hv
  subst hv
  exact ⟨rfl, hE.le.os, hE.le.tape, hE.le.output, hE.le.size, fun k hk _ => hE.le.imm k hk⟩

theorem reps_of {I : Nat → Prop} {w : World} {α : Type} (f : α → D) (g : α → Value) (h : ∀ a, D.rep I w (f a) (g a)) : ∀ l : List α, D.reps I w (l.map f) (l.map g)
 | [] => by simp
 | a :: l => by
  rw [List.map_cons, List.map_cons, D.reps_cons]
  exact ⟨h a, reps_of f g h l⟩

theorem o_yj {W : World} {v : Value} {α : Type} {l : List α} (f : α → D) (g : α → Value) (hg : ∀ a, (g a).oneCell' = true) (hr : ∀ a, D.rep (fun b => b < W.heap.size) W (f a) (g a)) (h : Cells W v 1 l.length (l.map g)) : V.rep (memW W) (.d (.sl l.length (l.map f))) v := by
 rw [V.rep_d]
 unfold D.rep
 obtain ⟨h1, p, cap, rfl, h2, h3, h4⟩ := h
 refine ⟨p, cap, rfl, h2, h3, l.map g, fun u hu => ?_, reps_of f g hr l, ?_⟩
 ·obtain ⟨a, -, rfl⟩ := List.mem_map.1 hu
  exact hg a
 ·rcases h4 with ⟨rfl, h5, h6⟩ | ⟨b, o, rfl, hb, hc⟩
  ·left
   exact ⟨rfl, h6, by rw [List.eq_nil_of_length_eq_zero h5]; rfl⟩
  ·exact .inr ⟨b, o, rfl, .inr hb, hc⟩

theorem o_yk {W : World} {l : List D} {vs : List Value} (h1 : ∀ u ∈ vs, u.oneCell' = true) (h : D.reps (fun b => b < W.heap.size) W l vs) : V.rep (memW W) (.d (.agg l)) (.agg vs.toArray) := by
 rw [V.rep_d]
 unfold D.rep
 exact ⟨vs, rfl, h1, h⟩
end
end Go.Proofs.YtijbgbpjionfjaaGreatDoor.Am
namespace Go.Proofs.YtijbgbpjionfjaaGreatDoor.Am
section
open Go.RowKit
def actM (cs : List Bool) (k a b y t : Nat) (f : Bool) (z u : Nat) (g : Bool) (n : Nat) (m : Bool) (p : Nat) (d : Bool) : TR := if m then mergeRM cs k a b y t f z u g p d else addRM cs k a b n y t f p d
end
end Go.Proofs.YtijbgbpjionfjaaGreatDoor.Am
namespace Go.Proofs.YtijbgbpjionfjaaGreatDoor.Am
section
open Go.RowKit
theorem o_yl {a b y t : Nat} {f : Bool} (h : GoodT a b) (hw : WellT a b y t f) : Eqn Tryz.prog o_d3 [.d (tpD a b), .d (tsD y t f)] [] (.tup [.d (.agg [natW (y * 2 ^ t)]), .d (.int .i64 0)]) [] := by
 refine Eqn.pure o_ph Plain.ok ?_
 have hwr := o_k2 h hw
 have hy : y ≤ 1023 := Nat.le_trans hw.1 h.2.1
 have ht : t ≤ 20 := Nat.le_trans hw.2.1 h.2.2
 have hof : Eqn Tryz.prog o_3q [.d (.sl 1 [.int .u64 y])] [] (.d (.agg [natW y])) [] := by
  have := o_h [y] (o_i (by omega)) (by simp)
  simpa [W, wval] using this
 have hsh := o_46 y t (Nat.le_trans (o_6 (by omega)) (by omega)) (by omega)
 have e1 : IntKind.u64.wrap (y : Int) = y := wu64 (by omega) (by omega)
 generalize y * 2 ^ t = v at *
 simp only [o_d4, tpD, tsD] at hwr ⊢
 refine G0B ?_; try with_reducible exact tt
 refine CallS.pf 3 3 ⟨139, _⟩ [.int .i64 y, .int .i64 t, .bool f] (hwr) (by first | rfl | (simp [-Bool.exists_bool]; done)) (R0B ?_); try with_reducible exact tt
 refine AW.cond rfl (fun h => ?_) (fun h => ?_)
 ·simp at h
 refine G1B e1 ?_; try with_reducible exact tt
 refine CallS.pf 4 1 ⟨28, _⟩ [.int .u64 (y : Nat)] (hof) (by first | rfl | (simp [-Bool.exists_bool]; done)) (R0B ?_); try with_reducible exact tt
 refine CallS.pu (hsh) (R0B ?_); try with_reducible exact tt

def valR (k a b y t : Nat) : Rat := if k = 4 then ((y * 2 ^ t : Nat) : Rat) else valC k a y
theorem o_lx {k a b y t : Nat} {f : Bool} (h : GoodR k a b) (hw : WellR k a b y t f) : Eqn Tryz.prog o_br [.d (parD k a b), .d (tsD y t f)] [] (.tup [.d (rD (valR k a b y t)), .d (.int .i64 0)]) [] := by
 refine Eqn.pure o_oq Plain.ok ?_
 have hwr := o_8i h hw
 rcases hw with ⟨rfl, hw⟩ | ⟨hk, rfl, hy, hf⟩
 ·replace h : GoodT a b := by
   rcases h with ⟨-, h⟩ | ⟨hk, -⟩
   ·exact h
   ·exact absurd rfl hk
  have h1 := o_4k 4 a b
  have h2 := o_8h y t f
  have h3 := o_yl h hw
  have h4 := o_96 (y * 2 ^ t)
  rw [show valR 4 a b y t = ((y * 2 ^ t : Nat) : Rat) from rfl]
  generalize y * 2 ^ t = v at *
  generalize ((v : Nat) : Rat) = q at *
  simp only [o_63, parD, tpD, tsD, rD, show ((4 : Nat) : Int) = 4 from rfl] at hwr h1 h2 h3 h4 ⊢
  refine G0B ?_; try with_reducible exact tt
  refine CallS.pf 3 3 ⟨64, _⟩ [.int .i64 y, .int .i64 t, .bool f] (hwr) (by first | rfl | (simp [-Bool.exists_bool]; done)) (R0B ?_); try with_reducible exact tt
  refine AW.cond rfl (fun h => ?_) (fun h => ?_)
  ·simp at h
  refine G0B ?_; try with_reducible exact tt
  refine AW.cond rfl (fun h => ?_) (fun h => ?_)
  ·refine G0B ?_; try with_reducible exact tt
   refine CallS.pu (h1) (R0B ?_); try with_reducible exact tt
   refine CallS.pu (h2) (R0B ?_); try with_reducible exact tt
   refine CallS.pu (h3) (R0B ?_); try with_reducible exact tt
   refine CallS.pu (h4) (R0B ?_); try with_reducible exact tt
  ·simp at h
 ·rcases h with ⟨rfl, -⟩ | ⟨-, h⟩
  ·exact absurd rfl hk
  have h1 := o_4l k a b
  have h3 := o_ye h y hy
  have hk' : ¬ (k : Int) = 4 := by omega
  rw [show valR k a b y 0 = valC k a y from if_neg hk]
  generalize valC k a y = q at *
  simp only [o_63, parD, tsD, rD] at hwr h1 h3 ⊢
  refine G0B ?_; try with_reducible exact tt
  refine CallS.pf 3 3 ⟨64, _⟩ [.int .i64 y, .int .i64 (0 : Nat), .bool f] (hwr) (by first | rfl | (simp [-Bool.exists_bool]; done)) (R0B ?_); try with_reducible exact tt
  refine AW.cond rfl (fun h => ?_) (fun h => ?_)
  ·simp at h
  refine G1B (fs hk hk') ?_; try with_reducible exact tt
  refine AW.cond rfl (fun h => ?_) (fun h => ?_)
  ·simp [hk'] at h
  ·refine G0B ?_; try with_reducible exact tt
   refine CallS.pu (h1) (R0B ?_); try with_reducible exact tt
   refine CallS.pu (h3) (R0B ?_); try with_reducible exact tt
end
end Go.Proofs.YtijbgbpjionfjaaGreatDoor.Am
namespace Go.Proofs.YtijbgbpjionfjaaGreatDoor.Am
section
open Go.RowKit
end
end Go.Proofs.YtijbgbpjionfjaaGreatDoor.Am
namespace Go.Proofs.YtijbgbpjionfjaaGreatDoor.Am
section
open Go.RowKit
theorem o_97 {n N : Nat} (h : size n ≤ N) (h1 : 1 ≤ N) : RS ((n : Nat) : Rat) N := by
 refine ⟨?_, ?_⟩
 ·rw [Rat.num_natCast, Int.natAbs_natCast]; exact h
 ·rw [Rat.den_natCast]; exact Nat.le_trans (o_6 (by omega)) h1
theorem o_ym {k a w x : Nat} (h : GoodC k a w) (hx : x ≤ 2 ^ w - 1) : RS (valC k a x) 1000 := by
 have h10 : 2 ^ w ≤ 2 ^ 10 := Nat.pow_le_pow_right (by omega) h.2.2
 have hb := o_lw (a := a) (w := w) (x := x)
 obtain ⟨h, -⟩ := id h
 unfold valC
 rcases h with ⟨rfl, h1, h2, h3⟩ | ⟨rfl, h1⟩ | ⟨rfl, h1, h2⟩
 ·rw [if_pos rfl]
  exact (o_lv a x h1 h2 (by omega) (Nat.le_trans (Nat.mul_le_mul_left _ hx) h3)).2.le (by omega)
 ·refine o_97 ?_ (by omega)
  have hd : 2 ^ a ≤ 2 ^ 8 := Nat.pow_le_pow_right (by omega) h1
  have hm := Nat.mod_lt x (Nat.two_pow_pos a)
  have hdv : x / 2 ^ a ≤ 1023 := Nat.le_trans (Nat.div_le_self _ _) (by omega)
  have hs := o_b (show valF a x ≤ (2 ^ a + x % 2 ^ a) * 2 ^ (x / 2 ^ a) from Nat.sub_le _ _)
  have h3 := o_j (2 ^ a + x % 2 ^ a) (2 ^ (x / 2 ^ a))
  have h4 := o_6 (x := 2 ^ a + x % 2 ^ a) (by omega)
  have h5 := o_x8 (x / 2 ^ a) (by omega)
  omega
 ·exact o_97 (Nat.le_trans (o_80 h1 h2 (by omega)).2.2.1 (by omega)) (by omega)
end
end Go.Proofs.YtijbgbpjionfjaaGreatDoor.Am
namespace Go.Proofs.YtijbgbpjionfjaaGreatDoor.Am
section
open Go.RowKit
theorem o_57 (k a b : Nat) (rs : List Rw) : (rowsD k a b rs).length = rs.length * 3 := o_1a (fun x => by simp [rowD]) rs
theorem o_98 (k a b : Nat) (rs : List Rw) (i : Nat) (h : i < rs.length) : ((rowsD k a b rs).drop (i * 3)).take 3 = [.int .u64 rs[i].a, .int .u64 rs[i].b, .ptr (arrD k a b rs[i].l) 0] := o_4y (f := rowD k a b) (fun x => by simp [rowD]) rs i h

theorem o_yn {R C k a b T : Nat} (rs : List Rw) (h0 : 1 ≤ rs.length) (hn : rs.length ≤ 4) :
  Eqn Tryz.prog o_bj [.p 0 0] [skO R C k a b rs T] (.own 1 2 rs.length) [skO R C k a b rs T, ⟨62, (hashesD (rs.map fun r => (r.a, r.b))).map .d⟩] := by
 refine Eqn.gen [0, 1] o_om (by simp) (by simp) (by rfl) (by decide) (by simp) (by simp [skO, skD]) ?_
 have hl := o_57 k a b rs
 obtain ⟨F, hF⟩ : ∃ F : Nat → List D, F = fun i => hashesD ((rs.take i).map fun r => (r.a, r.b)) := ⟨_, rfl⟩
 have hF0 : F 0 = [] := by rw [hF]; simp [hashesD]
 have hFn : hashesD (rs.map fun r => (r.a, r.b)) = F rs.length := by rw [hF]; simp
 have hFl : ∀ i, i ≤ rs.length → (F i).length = i * 2 := by
  intro i hi
  rw [hF]
  show (hashesD ((rs.take i).map fun r => (r.a, r.b))).length = i * 2
  unfold hashesD
  rw [o_1a (n := 2) (fun x => by simp), List.length_map, List.length_take]; omega
 have hFs : ∀ i (h : i < rs.length), F (i + 1) = F i ++ [.int .u64 rs[i].a, .int .u64 rs[i].b] := by
  intro i hi
  rw [hF]
  show hashesD ((rs.take (i + 1)).map fun r => (r.a, r.b)) = hashesD ((rs.take i).map fun r => (r.a, r.b)) ++ _
  rw [o_8u _ _ hi, List.map_append, hashesD, List.flatMap_append]; simp [hashesD]
 have hgt := o_98 k a b rs
 rw [hFn]
 clear hF hFn
 simp only [o_bk, skO, skD, List.map_cons, List.map_nil]
 generalize rowsD k a b rs = RD at *
 refine G0 ?_; try with_reducible exact tt
 refine AW.loopG (α := Nat) (fun i => setS (List.replicate 22 .junk) [(3, if i = 0 then .d .nilsl else .own 1 2 i), (9, .d (.sl rs.length RD)), (10, .d (.int .i64 rs.length)), (11, .d (.int .i64 (i : Int)))]) (fun i => some ⟨106, [.d (.int .i64 R), .d (.int .i64 C), .d (.int .i64 k), .d (.int .i64 a), .d (.int .i64 b), .d (.sl rs.length RD), .d (.int .i64 T)]⟩ :: (if i = 0 then [] else [some ⟨62, (F i).map .d⟩])) (fun i => i ≤ rs.length) (fun i => rs.length - i) 0 ?_ (Nat.zero_le _) ?_ ?_ ?_
 ·intro i hi; split <;> simp
 ·simp
 ·simp
 rintro i hi
 by_cases hiN : i < rs.length
 ·have hi1 : (i : Int) < rs.length := by omega
  have hg := hgt i hiN
  have hsn := hFs i hiN
  have hbd : i * 3 + 3 ≤ rs.length * 3 := by omega
  have ew : IntKind.i64.wrap ((i : Int) + 1) = (i : Int) + 1 := w64 (by omega) (by omega)
  generalize rs[i].a = x1 at *
  generalize rs[i].b = x2 at *
  generalize rs[i].l = x3 at *
  by_cases hi0 : i = 0
  ·subst hi0
   simp [hF0] at hg hsn
   simp
   refine A10 (fs hiN (fs hi1 (fs hg hl))) ?_; try with_reducible exact tt
   refine ⟨1, 1, 3, by simp, by omega, by omega, ?_, ?_⟩
   ·simp [swT, swH, sw, Ob.sw, V.ren, V.rens]
   ·simp [swT, swH, sw, Ob.sw, V.ren, V.rens, hsn]
  ·rw [if_neg hi0, if_neg hi0]
   have hfl := hFl i hi
   simp
   refine A10 (fs hiN (fs hi1 (fs hg (fs hl (fs hbd (fs hfl ew)))))) ?_; try with_reducible exact tt
   refine ⟨i + 1, 1, 4, by simp, by omega, by omega, ?_, ?_⟩
   ·simp [swT, swH, sw, Ob.sw, V.ren, V.rens]
   ·simp [swT, swH, sw, Ob.sw, V.ren, V.rens, hsn]
 ·have h2 : i = rs.length := by omega
  subst h2
  have hz : rs.length ≠ 0 := by omega
  rw [if_neg hz, if_neg hz]
  simp
  refine A00 ?_; try with_reducible exact tt

theorem o_yo {R C k a b T : Nat} (hg : GoodR k a b) (rs : List Rw) (hC : C ≤ 64) (i j : Nat) (hi : i < rs.length) (hn : rs.length ≤ 4) (hr : GoodRow C k a b rs[i]) (hj : j < C) :
  Eqn Tryz.prog o_bl [.p 0 0, .d (.int .i64 i), .d (.int .i64 j)] [skO R C k a b rs T] (.tup [.d (tsD (rs[i].l.getD j (0, 0, false)).1 (rs[i].l.getD j (0, 0, false)).2.1 (rs[i].l.getD j (0, 0, false)).2.2), .d (.int .i64 0)]) [skO R C k a b rs T] := by
 refine Eqn.gen [0] o_on (by simp) (by simp) (by rfl) (by decide) (by simp [tsD]) (by simp [skO, skD]) ?_
 obtain ⟨-, -, hl, hw⟩ := hr
 have hgt := o_l1 rs[i].l j hg hw (by omega) (by omega)
 have hgr := o_98 k a b rs i hi
 have hrl := o_57 k a b rs
 have hg2 : ∀ h : i * 3 + 2 < (rowsD k a b rs).length, (rowsD k a b rs)[i * 3 + 2] = .ptr (arrD k a b rs[i].l) 0 := by
  intro h
  have := congrArg (fun l => l[2]?) hgr
  simp only [List.getElem?_take, List.getElem?_drop] at this
  rw [if_pos (by omega), List.getElem?_eq_getElem h] at this
  simpa using this
 simp only [o_bm, skO, skD, List.map_cons, List.map_nil, tsD] at hgt ⊢
 generalize rowsD k a b rs = RD at *
 generalize arrD k a b rs[i].l = AD at *
 generalize rs[i].l.getD j (0, 0, false) = s at *
 have g1 : ¬ (i : Int) < 0 := by omega
 have g2 : (i : Int) < rs.length := by omega
 have g3 : ¬ (rs.length : Int) ≤ i := by omega
 have g4 : ¬ rs.length ≤ i := by omega
 have g5 : i * 3 < rs.length * 3 := by omega
 have g6 : i * 3 + 2 < rs.length * 3 := by omega
 refine A11 (fs g1 (fs g2 (fs g3 (fs g4 (fs g5 (fs g6 (fs hi (fs hg2 hrl)))))))) hgt ?_; try with_reducible exact tt

def valAt (C k a b key : Nat) (r : Rw) : Rat := valR k a b (r.l.getD (colOf C r.a r.b key) (0, 0, false)).1 (r.l.getD (colOf C r.a r.b key) (0, 0, false)).2.1
def leastQ (f : Nat → Rat) : Nat → Rat
 | 0 => 0
 | i + 1 => if i = 0 ∨ f i < leastQ f i then f i else leastQ f i
def valsOf (C k a b key : Nat) (rs : List Rw) (i : Nat) : Rat := match rs[i]? with
 | some r => valAt C k a b key r
 | none => 0
theorem o_yp {k a b y t : Nat} {f : Bool} (h : GoodR k a b) (hw : WellR k a b y t f) : RS (valR k a b y t) 1000 := by
 unfold valR
 rcases hw with ⟨rfl, hw⟩ | ⟨hk, rfl, hy, hf⟩
 ·replace h : GoodT a b := by
   rcases h with ⟨-, h⟩ | ⟨hk, -⟩
   ·exact h
   ·exact absurd rfl hk
  rw [if_pos rfl]
  have h1 : y ≤ 1023 := Nat.le_trans hw.1 h.2.1
  have h2 : t ≤ 20 := Nat.le_trans hw.2.1 h.2.2
  have h3 : 2 ^ t ≤ 2 ^ 20 := Nat.pow_le_pow_right (by omega) h2
  have h4 := Nat.mul_le_mul h1 h3
  exact (o_97 (o_6 (by omega)) (by omega)).le (by omega)
 ·rcases h with ⟨rfl, -⟩ | ⟨-, h⟩
  ·exact absurd rfl hk
  ·rw [if_neg hk]; exact o_ym h hy
theorem o_ly {C k a b key : Nat} (hg : GoodR k a b) (r : Rw) (hr : GoodRow C k a b r) (h1 : 1 ≤ C) : RS (valAt C k a b key r) 1000 := by
 obtain ⟨-, -, hl, hw⟩ := hr
 exact o_yp hg (o_g hw (show colOf C r.a r.b key < r.l.length by rw [hl]; exact Nat.mod_lt _ (by omega)))
theorem o_99 {f : Nat → Rat} : ∀ n, (∀ i, i < n → RS (f i) 1000) → RS (leastQ f n) 1000
 | 0, _ => ⟨Nat.zero_le _, Nat.le_trans (o_6 (by unfold leastQ; decide)) (by omega)⟩
 | n + 1, h => by
  unfold leastQ
  split
  ·exact h n (by omega)
  ·exact o_99 n fun i hi => h i (by omega)

set_option maxHeartbeats 1000000 in
theorem o_lz {R C k a b T : Nat} (hg : GoodR k a b) (rs : List Rw) (h1 : 1 ≤ C) (hC : C ≤ 64) (hn0 : 1 ≤ rs.length) (hn : rs.length ≤ 4) (hr : ∀ r ∈ rs, GoodRow C k a b r) (key : Nat) (hk : key < hP) :
  Eqn Tryz.prog o_60 [.p 0 0, .d (.int .u64 key)] [skO R C k a b rs T] (.tup [.d (rD (leastQ (valsOf C k a b key rs) rs.length)), .d (.int .i64 0)]) [skO R C k a b rs T] := by
 refine Eqn.gen [0] o_b9 (by simp) (by simp) (by rfl) (by decide) (by simp) (by simp [skO, skD]) ?_
 have hRS : ∀ i, i < rs.length → RS (valsOf C k a b key rs i) 1000 := by
  intro i hi
  unfold valsOf
  rw [List.getElem?_eq_getElem hi]
  exact o_ly hg _ (hr _ (List.getElem_mem _)) h1
 have hL : ∀ i, i ≤ rs.length → RS (leastQ (valsOf C k a b key rs) i) 1000 := fun i hi => o_99 i fun j hj => hRS j (by omega)
 have hrl := o_57 k a b rs
 have hgr := o_98 k a b rs
 have hv : ∀ i (h : i < rs.length), valsOf C k a b key rs i = valAt C k a b key rs[i] := by
  intro i h
  unfold valsOf
  rw [List.getElem?_eq_getElem h]
 have hst : ∀ i, leastQ (valsOf C k a b key rs) (i + 1) = if i = 0 ∨ valsOf C k a b key rs i < leastQ (valsOf C k a b key rs) i then valsOf C k a b key rs i else leastQ (valsOf C k a b key rs) i := fun i => rfl
 have h00 : leastQ (valsOf C k a b key rs) 0 = 0 := rfl
 simp only [o_61, skO, skD, List.map_cons, List.map_nil]
 generalize rowsD k a b rs = RD at *
 generalize valsOf C k a b key rs = f at *
 generalize leastQ f = g at *
 refine G0 ?_; try with_reducible exact tt
 refine AW.loopT (α := Nat) 3 (fun i => [(19, .d (.int .i64 (i : Int)))]) (fun i => [(2, ⟨51, [.d (natW (g i).num.natAbs), .d (.bool (decide ((g i).num < 0))), .d (natW ((g i).den - 1))]⟩)]) (fun i => i ≤ rs.length) (fun i => rs.length - i) 0 ?_ ?_ (Nat.zero_le _) ?_ ?_ ?_
 ·simp
 ·simp
 ·simp
 ·rw [h00, show natW (Rat.num 0).natAbs = .sl 0 [] from rfl, show natW ((Rat.den 0) - 1) = .sl 0 [] from rfl, show decide (Rat.num 0 < 0) = false from rfl]
  simp
  intro m vs h
  obtain ⟨v1, r1, rfl, k1, h⟩ := V.reps_cons'.1 h
  obtain ⟨v2, r2, rfl, k2, h⟩ := V.reps_cons'.1 h
  obtain ⟨v3, r3, rfl, k3, h⟩ := V.reps_cons'.1 h
  exact V.reps_cons.2 ⟨Sub1.nil _ _ k1, V.reps_cons.2 ⟨k2, V.reps_cons.2 ⟨Sub1.nil _ _ k3, h⟩⟩⟩
 rintro i hi
 simp
 by_cases hiN : i < rs.length
 ·have hi1 : (i : Int) < rs.length := by omega
  have hgi := hgr i hiN
  have hri := hr _ (List.getElem_mem hiN)
  have hvi := hv i hiN
  have hbd : i * 3 + 3 ≤ rs.length * 3 := by omega
  have ew : IntKind.i64.wrap ((i : Int) + 1) = (i : Int) + 1 := w64 (by omega) (by omega)
  generalize rs[i] = r at *
  obtain ⟨hA, hB, hl, hw⟩ := hri
  have hof := o_v r.a r.b key C hA hB hk h1 hC
  rw [show hsum r.a r.b key % C = colOf C r.a r.b key from rfl] at hof
  have hcol : colOf C r.a r.b key < C := Nat.mod_lt _ (by omega)
  have hget := o_l1 r.l (colOf C r.a r.b key) hg hw (by omega) (by omega)
  have hval := o_lx hg (o_g hw (show colOf C r.a r.b key < r.l.length by omega))
  unfold valAt at hvi
  rw [← hvi] at hval
  have hcmp := o_lo (f i) (g i) ((hRS i hiN).le (by omega)) ((hL i hi).le (by omega))
  have hsi := hst i
  generalize colOf C r.a r.b key = col at *
  generalize r.l.getD col (0, 0, false) = s at *
  obtain ⟨y, t, fl⟩ := s
  simp only [hD, tsD, rD, parD] at hof hget hval hcmp
  generalize f i = fi at *
  generalize arrD k a b r.l = AD at *
  generalize r.a = A at *
  generalize r.b = B at *
  by_cases hi0 : i = 0
  ·rw [if_pos (.inl hi0)] at hsi
   subst hi0
   simp at hgi
   refine A13 (fs hiN (fs hi1 (fs hgi hrl))) hof hget hval ?_; try with_reducible exact tt
   refine ⟨1, by omega, by omega, by simp, ?_⟩
   simp [hsi]
  ·have hi0' : ¬ (i : Int) = 0 := by omega
   by_cases hlt : fi < g i
   ·rw [if_pos (.inr hlt)] at hsi
    have hc : cmpQ fi (g i) = -1 := by unfold cmpQ; rw [if_pos hlt]
    rw [hc] at hcmp
    refine A14 (fs hiN (fs hi1 (fs hgi (fs hrl (fs hbd (fs ew (fs hi0 hi0'))))))) hof hget hval hcmp ?_; try with_reducible exact tt
    refine ⟨i + 1, by omega, by omega, by simp, ?_⟩
    simp [hsi]
   ·rw [if_neg (by rintro (h | h); exact hi0 h; exact hlt h)] at hsi
    have hc : ¬ cmpQ fi (g i) < 0 := by unfold cmpQ; rw [if_neg hlt]; split <;> omega
    generalize cmpQ fi (g i) = c at *
    refine A14 (fs hiN (fs hi1 (fs hgi (fs hrl (fs hbd (fs ew (fs hi0 (fs hi0' hc)))))))) hof hget hval hcmp ?_; try with_reducible exact tt
    refine ⟨i + 1, by omega, by omega, by simp, ?_⟩
    simp [hsi]
 ·have h2 : i = rs.length := by omega
  subst h2
  simp only [rD]
  refine A00 ?_; try with_reducible exact tt
end
end Go.Proofs.YtijbgbpjionfjaaGreatDoor.Am
namespace Go.Proofs.YtijbgbpjionfjaaGreatDoor.Am
section
open Go.RowKit
def drD (r c k a b : Int) (ws : List Nat) : D := .agg [.int .i64 r, .int .i64 c, .int .i64 k, .int .i64 a, .int .i64 b, .sl ws.length (ws.map fun x : Nat => .int .u64 x)]

theorem o_yq (r c k a b : Int) (ws : List Nat) : ∃ R C K A B : Nat, GoodP R C K A B ∧ (R : Int) = 1 + bits BinOp.and IntKind.i64 r 3 ∧ Eqn Tryz.prog o_5z [.d (drD r c k a b ws)] [] (.d (cpD R C K A B)) [] := by
 obtain ⟨K, A, B, hsr, hsm⟩ := o_yh k a b
 obtain ⟨Y, T, F, hw, hs1⟩ := hsm 0 0 false
 have hown := o_yg K A B
 obtain ⟨r1, hr1, hr2, hr3⟩ := o_16 r 3 (by omega)
 obtain ⟨c1, hc1, hc2, -⟩ := o_16 c 255 (by omega)
 replace hr1 : bits BinOp.and IntKind.i64 r 3 = r1 := hr1
 replace hc1 : bits BinOp.and IntKind.i64 c 255 = c1 := hc1
 have e1 : IntKind.i64.wrap (1 + (c1 : Int) % 64) = ((1 + c1 % 64 : Nat) : Int) := by rw [w64 (by omega) (by omega)]; omega
 have e2 : (c1 : Int).tmod 64 = (c1 : Int) % 64 := by rw [Int.tmod_eq_emod_of_nonneg (by omega)]
 refine ⟨1 + r1, 1 + c1 % 64, K, A, B, ⟨by omega, by omega, by omega, by omega, o_yf hsr⟩, by rw [hr1]; omega, ?_⟩
 refine Eqn.pure o_oc Plain.ok ?_
 simp only [o_b1, drD, parD, cpD, tsD] at hs1 hown ⊢
 refine A12 (fs hr1 (fs hr3 (fs hc1 (fs e1 e2)))) hs1 hown ?_; try with_reducible exact tt

def hnum (ws : List Nat) (i : Nat) : Nat := if i < ws.length then ws.getD i 0 % hP else i + 1
def drawH (ws : List Nat) (R : Nat) : List (Nat × Nat) := (List.range R).map fun i => (hnum ws (2 * i), hnum ws (2 * i + 1))
theorem o_m0 (ws : List Nat) {R : Nat} (h : R ≤ 4) : ∀ x ∈ drawH ws R, x.1 < hP ∧ x.2 < hP := by
 intro x hx
 obtain ⟨i, hi, rfl⟩ := List.mem_map.1 hx
 rw [List.mem_range] at hi
 have key : ∀ j, j ≤ 8 → hnum ws j < hP := by
  intro j hj
  unfold hnum
  split
  ·exact Nat.mod_lt _ (by decide)
  ·unfold hP; omega
 exact ⟨key _ (by omega), key _ (by omega)⟩

theorem o_yr (r c k a b : Int) (ws : List Nat) (hw : ws.length ≤ 9223372036854775807) (i : Nat) (hi : i ≤ 8) : Eqn Tryz.prog o_65 [.d (.int .i64 i), .p 0 0] [⟨26, [.d (.int .i64 r), .d (.int .i64 c), .d (.int .i64 k), .d (.int .i64 a), .d (.int .i64 b), .d (.sl ws.length (ws.map fun x : Nat => .int .u64 x))]⟩] (.d (.int .u64 (hnum ws i))) [⟨26, [.d (.int .i64 r), .d (.int .i64 c), .d (.int .i64 k), .d (.int .i64 a), .d (.int .i64 b), .d (.sl ws.length (ws.map fun x : Nat => .int .u64 x))]⟩] := by
 refine Eqn.gen [0] o_p0 (by simp) (by simp) (by rfl) (by decide) (by simp) (by simp) ?_
 simp only [o_c9]
 unfold hnum hP
 by_cases h : i < ws.length
 ·have h1 : (i : Int) < ws.length := by omega
  have e : (ws.getD i 0) = ws[i] := by simp [List.getD, h]
  have e2 : (ws[i] : Int).tmod 2305843009213693951 = (ws[i] : Int) % 2305843009213693951 := by rw [Int.tmod_eq_emod_of_nonneg (by omega)]
  rw [if_pos h, e]
  refine A10 (fs h (fs h1 e2)) ?_; try with_reducible exact tt
 ·have h1 : ¬ (i : Int) < ws.length := by omega
  have e1 : IntKind.i64.wrap ((i : Int) + 1) = ((i + 1 : Nat) : Int) := by rw [w64 (by omega) (by omega)]; omega
  have e2 : IntKind.u64.wrap ((i : Int) + 1) = (i : Int) + 1 := by rw [IntKind.wrap_u64]; omega
  rw [if_neg h]
  refine A10 (fs h (fs h1 (fs e1 e2))) ?_; try with_reducible exact tt

theorem o_ys (r c k a b : Int) (ws : List Nat) (hw : ws.length ≤ 9223372036854775807) (R : Nat) (hR : (R : Int) = 1 + bits BinOp.and IntKind.i64 r 3) (h1 : 1 ≤ R) (h4 : R ≤ 4) : Eqn Tryz.prog o_b4 [.d (drD r c k a b ws)] [] (.own 0 2 R) [⟨62, (hashesD (drawH ws R)).map .d⟩] := by
 refine Eqn.gen [1] o_oe (by simp) (by simp) (by rfl) (by decide) (by simp) (by simp) ?_
 obtain ⟨r1, hr1, hr2, hr3⟩ := o_16 r 3 (by omega)
 replace hr1 : bits BinOp.and IntKind.i64 r 3 = r1 := hr1
 rw [hr1] at hR
 obtain rfl : R = 1 + r1 := by omega
 have hnn := fun i hi => o_yr r c k a b ws hw i hi
 obtain ⟨F, hF⟩ : ∃ F : Nat → List D, F = fun i => hashesD (drawH ws i) := ⟨_, rfl⟩
 have hF0 : F 0 = [] := by rw [hF]; simp [hashesD, drawH]
 have hFn : hashesD (drawH ws (1 + r1)) = F (1 + r1) := by rw [hF]
 have hFl : ∀ i, (F i).length = i * 2 := by
  intro i
  rw [hF]
  show (hashesD (drawH ws i)).length = i * 2
  unfold hashesD
  rw [o_1a (n := 2) (fun x => by simp), drawH, List.length_map, List.length_range]
 have hFs : ∀ i, F (i + 1) = F i ++ [.int .u64 (hnum ws (2 * i)), .int .u64 (hnum ws (2 * i + 1))] := by
  intro i
  rw [hF]
  show hashesD (drawH ws (i + 1)) = hashesD (drawH ws i) ++ _
  rw [drawH, List.range_succ, List.map_append, hashesD, List.flatMap_append]; simp [hashesD, drawH]
 rw [hFn]
 clear hF hFn
 simp only [o_b5, drD]
 generalize hWD : (ws.map fun x : Nat => D.int .u64 x) = WD at *
 refine A10 (fs hr1 hr3) ?_; try with_reducible exact tt
 refine AW.loopG (α := Nat) (fun i => setS (List.replicate 29 .junk) [(3, if i = 0 then .d .nilsl else .own 1 2 i), (4, .fn (.func o_65) [.p 0 0]), (10, .d (.int .i64 (1 + r1 : Nat))), (11, .d (.int .i64 (i : Int)))]) (fun i => some ⟨26, [.d (.int .i64 r), .d (.int .i64 c), .d (.int .i64 k), .d (.int .i64 a), .d (.int .i64 b), .d (.sl ws.length WD)]⟩ :: (if i = 0 then [] else [some ⟨62, (F i).map .d⟩])) (fun i => i ≤ 1 + r1) (fun i => 1 + r1 - i) 0 ?_ (Nat.zero_le _) ?_ ?_ ?_
 ·intro i hi; split <;> simp
 ·simp
 ·simp
 rintro i hi
 by_cases hiN : i < 1 + r1
 ·have hi1 : (i : Int) < 1 + (r1 : Int) := by omega
  have hsn := hFs i
  have ew : IntKind.i64.wrap ((i : Int) + 1) = (i : Int) + 1 := w64 (by omega) (by omega)
  by_cases hi0 : i = 0
  ·subst hi0
   have q1 := hnn 0 (by omega)
   have q2 := hnn 1 (by omega)
   have hi2 : (0 : Int) < 1 + (r1 : Int) := by omega
   have m1 : IntKind.i64.wrap 1 = 1 := by decide
   have m0 : IntKind.i64.wrap 0 = 0 := by decide
   simp [hF0] at hsn
   simp
   refine A10 (fs hi2 m0) ?_; try with_reducible exact tt
   refine CallS.g [0] (q1) (R1 m1 ?_); try with_reducible exact tt
   refine CallS.g [0] (q2) (R0 ?_); try with_reducible exact tt
   refine ⟨1, 1, 2, by simp, by omega, by omega, ?_, ?_⟩
   ·simp [swT, swH, sw, Ob.sw, V.ren, V.rens]
   ·simp [swT, swH, sw, Ob.sw, V.ren, V.rens, hsn]
  ·have q1 := hnn (2 * i) (by omega)
   have q2 := hnn (2 * i + 1) (by omega)
   have m1 : IntKind.i64.wrap (2 * (i : Int)) = ((2 * i : Nat) : Int) := by rw [w64 (by omega) (by omega)]; omega
   have m2 : IntKind.i64.wrap (2 * (i : Int) + 1) = ((2 * i + 1 : Nat) : Int) := by rw [w64 (by omega) (by omega)]; omega
   have m3 : ((2 * i : Nat) : Int) = 2 * (i : Int) := by omega
   generalize hnum ws (2 * i) = x1 at *
   generalize hnum ws (2 * i + 1) = x2 at *
   rw [if_neg hi0, if_neg hi0]
   have hfl := hFl i
   simp
   refine A10 (fs hiN hi1) ?_; try with_reducible exact tt
   refine CallS.g [0] (q1) (R0 ?_); try with_reducible exact tt
   refine CallS.g [0] (q2) (R1 (fs hfl ew) ?_); try with_reducible exact tt
   refine ⟨i + 1, 1, 3, by simp, by omega, by omega, ?_, ?_⟩
   ·simp [swT, swH, sw, Ob.sw, V.ren, V.rens]
   ·simp [swT, swH, sw, Ob.sw, V.ren, V.rens, hsn]
 ·have h2 : i = 1 + r1 := by omega
  subst h2
  have hz : 1 + r1 ≠ 0 := by omega
  rw [if_neg hz, if_neg hz]
  simp
  refine A00 ?_; try with_reducible exact tt

def updD (l : List (Nat × Int)) : List D := l.flatMap fun u => [.int .u64 u.1, .int .i64 u.2]
end
end Go.Proofs.YtijbgbpjionfjaaGreatDoor.Am
namespace Go.Proofs.YtijbgbpjionfjaaGreatDoor.Am
section
open Go.RowKit
structure UR where
 e : Int
 rs : List Rw
 p : Nat
 d : Bool
def updR (cs : List Bool) (C k a b key n : Nat) (r : Rw) (p : Nat) (d : Bool) : TR := addRM cs k a b n (r.l.getD (colOf C r.a r.b key) (0, 0, false)).1 (r.l.getD (colOf C r.a r.b key) (0, 0, false)).2.1 (r.l.getD (colOf C r.a r.b key) (0, 0, false)).2.2 p d
def updC (r : Rw) (l : List ST) (Z : TR) (U : UR) : UR := if Z.e = 0 then ⟨U.e, ⟨r.a, r.b, l⟩ :: U.rs, U.p, U.d⟩ else ⟨Z.e, [], Z.p, Z.d⟩
def updM (cs : List Bool) (C k a b key n : Nat) : List Rw → Nat → Bool → UR
 | [], p, d => ⟨0, [], p, d⟩
 | r :: rs, p, d => updC r (r.l.set (colOf C r.a r.b key) ((updR cs C k a b key n r p d).y, (updR cs C k a b key n r p d).t, (updR cs C k a b key n r p d).f)) (updR cs C k a b key n r p d) (updM cs C k a b key n rs (updR cs C k a b key n r p d).p (updR cs C k a b key n r p d).d)

theorem o_yt {C k a b T : Nat} (hg : GoodR k a b) (g1 : 1 ≤ C) (g2 : C ≤ 64) (A0 B0 A1 B1 : Nat) (l0 l1 : List ST) (h0 : GoodRow C k a b ⟨A0, B0, l0⟩) (h1 : GoodRow C k a b ⟨A1, B1, l1⟩) :
  Eqn Tryz.prog o_2k [.p 0 0] [skO 2 C k a b [⟨A0, B0, l0⟩, ⟨A1, B1, l1⟩] T] (.p 1 0) [skO 2 C k a b [⟨A0, B0, l0⟩, ⟨A1, B1, l1⟩] T, ⟨106, [.d (.int .i64 (2 : Nat)), .d (.int .i64 C), .d (.int .i64 k), .d (.int .i64 a), .d (.int .i64 b), .own 2 3 2, .d (.int .i64 T)]⟩, ⟨111, [.d (.int .u64 A0), .d (.int .u64 B0), .p 3 0, .d (.int .u64 A1), .d (.int .u64 B1), .p 6 0]⟩, arrO 4 k a b, arrV 5 k a b l0, arrB k a b l0, arrO 7 k a b, arrV 8 k a b l1, arrB k a b l1] := by
 obtain ⟨-, -, e0, -⟩ := h0
 simp only at e0
 obtain ⟨-, -, e1, -⟩ := h1
 simp only at e1
 refine Eqn.gen [0, 1, 2, 4, 5, 6, 8, 9, 10] o_3m (by simp) (by simp) (by rfl) (by decide) (by simp) (by simp [skO, skD, arrO, arrV, arrB, vecO, vecB, u64s]) ?_
 have hc := o_4z 2 [.int .u64 A0, .int .u64 B0, .ptr (arrD k a b l0) 0, .int .u64 A1, .int .u64 B1, .ptr (arrD k a b l1) 0] (by omega) rfl (by omega)
 have d0 := o_14 l0 hg (by omega) (by omega)
 have d1 := o_14 l1 hg (by omega) (by omega)
 simp only [o_2l, skO, skD, rowsD, rowD, List.flatMap_cons, List.flatMap_nil, List.append_nil, List.cons_append, List.nil_append, List.map_cons, List.map_nil, List.length_cons, List.length_nil, arrO, arrV, arrB, vecO, vecB, e0, e1] at hc d0 d1 ⊢
 generalize arrD k a b l0 = AD0 at *
 generalize wordsP (wdR k a b) (encs k a b l0) = WS0 at *
 generalize arrD k a b l1 = AD1 at *
 generalize wordsP (wdR k a b) (encs k a b l1) = WS1 at *
 generalize nwP C (wdR k a b) = NW at *
 generalize wdR k a b = w at *
 refine G0 ?_; try with_reducible exact tt
 refine CallS.g [] (hc) (R0 ?_); try with_reducible exact tt
 refine AW.rounds 3 ?_
 refine A00 ?_; try with_reducible exact tt
 refine CallS.g [] (d0) (R0 ?_); try with_reducible exact tt
 refine A00 ?_; try with_reducible exact tt
 refine CallS.g [] (d1) (R0 ?_); try with_reducible exact tt
 refine A00 ?_; try with_reducible exact tt

set_option maxHeartbeats 4000000 in
theorem o_yu {C k a b T : Nat} (hg : GoodR k a b) (g1 : 1 ≤ C) (g2 : C ≤ 64) (A0 B0 A1 B1 : Nat) (l0 l1 : List ST) (h0 : GoodRow C k a b ⟨A0, B0, l0⟩) (h1 : GoodRow C k a b ⟨A1, B1, l1⟩) (cs : List Bool) (key n p : Nat) (d : Bool) (hk : key < hP) (hn : n ≤ 1048576) (hT : T + n ≤ 1099511627776) (hp : p ≤ cs.length) (hc : cs.length ≤ 4000000) (U : UR) (hU : U = updM cs C k a b key n [⟨A0, B0, l0⟩, ⟨A1, B1, l1⟩] p d) :
  Eqn Tryz.prog o_1w [.p 0 0, .p 1 0, .d (.int .u64 key), .d (.int .i64 n)] [skO 2 C k a b [⟨A0, B0, l0⟩, ⟨A1, B1, l1⟩] T, tapeO cs p d] (.d (.int .i64 U.e)) [if U.e = 0 then skO 2 C k a b U.rs (T + n) else skO 2 C k a b [⟨A0, B0, l0⟩, ⟨A1, B1, l1⟩] T, tapeO cs U.p U.d] := by
 have hcl := o_yt (T := T) hg g1 g2 A0 B0 A1 B1 l0 l1 h0 h1
 obtain ⟨a0, b0, e0, w0⟩ := h0
 simp only at a0 b0 e0 w0
 have c0 : colOf C A0 B0 key < C := Nat.mod_lt _ (by omega)
 have o0 := o_v A0 B0 key C a0 b0 hk g1 g2
 rw [show hsum A0 B0 key % C = colOf C A0 B0 key from rfl] at o0
 obtain ⟨Z0, z0⟩ : ∃ Z, Z = updR cs C k a b key n ⟨A0, B0, l0⟩ p d := ⟨_, rfl⟩
 have p0 : Z0.p ≤ cs.length := by rw [z0]; exact (o_u hg (o_g w0 (show colOf C A0 B0 key < l0.length by omega)) hp hc).1
 have x0 := o_13 cs l0 (colOf C A0 B0 key) n p d hg w0 (by omega) (by omega) hn hp hc Z0 z0
 obtain ⟨a1, b1, e1, w1⟩ := h1
 simp only at a1 b1 e1 w1
 have c1 : colOf C A1 B1 key < C := Nat.mod_lt _ (by omega)
 have o1 := o_v A1 B1 key C a1 b1 hk g1 g2
 rw [show hsum A1 B1 key % C = colOf C A1 B1 key from rfl] at o1
 obtain ⟨Z1, z1⟩ : ∃ Z, Z = updR cs C k a b key n ⟨A1, B1, l1⟩ Z0.p Z0.d := ⟨_, rfl⟩
 have p1 : Z1.p ≤ cs.length := by rw [z1]; exact (o_u hg (o_g w1 (show colOf C A1 B1 key < l1.length by omega)) p0 hc).1
 have x1 := o_13 cs l1 (colOf C A1 B1 key) n Z0.p Z0.d hg w1 (by omega) (by omega) hn p0 hc Z1 z1
 simp only [updM] at hU
 rw [← z0] at hU
 rw [← z1] at hU
 clear z0 p0 z1 p1
 have D0 : arrD k a b (l0.set (colOf C A0 B0 key) (Z0.y, Z0.t, Z0.f)) = [.ptr [.sl (nwP C (wdR k a b)) ((wordsP (wdR k a b) (encs k a b (l0.set (colOf C A0 B0 key) (Z0.y, Z0.t, Z0.f)))).map fun x : Nat => D.int .u64 x), .int .i64 C, .int .i64 (wdR k a b)] 0, .int .i64 k, .int .i64 a, .int .i64 b] := by simp [arrD, vecD, e0]
 have L0 : ((wordsP (wdR k a b) (encs k a b (l0.set (colOf C A0 B0 key) (Z0.y, Z0.t, Z0.f)))).map fun x : Nat => D.int .u64 x).length = nwP C (wdR k a b) := by simp [e0]
 have u0 : u64s (wordsP (wdR k a b) (encs k a b (l0.set (colOf C A0 B0 key) (Z0.y, Z0.t, Z0.f)))) = ((wordsP (wdR k a b) (encs k a b (l0.set (colOf C A0 B0 key) (Z0.y, Z0.t, Z0.f)))).map fun x : Nat => D.int .u64 x).map V.d := by simp [u64s]
 have D1 : arrD k a b (l1.set (colOf C A1 B1 key) (Z1.y, Z1.t, Z1.f)) = [.ptr [.sl (nwP C (wdR k a b)) ((wordsP (wdR k a b) (encs k a b (l1.set (colOf C A1 B1 key) (Z1.y, Z1.t, Z1.f)))).map fun x : Nat => D.int .u64 x), .int .i64 C, .int .i64 (wdR k a b)] 0, .int .i64 k, .int .i64 a, .int .i64 b] := by simp [arrD, vecD, e1]
 have L1 : ((wordsP (wdR k a b) (encs k a b (l1.set (colOf C A1 B1 key) (Z1.y, Z1.t, Z1.f)))).map fun x : Nat => D.int .u64 x).length = nwP C (wdR k a b) := by simp [e1]
 have u1 : u64s (wordsP (wdR k a b) (encs k a b (l1.set (colOf C A1 B1 key) (Z1.y, Z1.t, Z1.f)))) = ((wordsP (wdR k a b) (encs k a b (l1.set (colOf C A1 B1 key) (Z1.y, Z1.t, Z1.f)))).map fun x : Nat => D.int .u64 x).map V.d := by simp [u64s]
 refine Eqn.gen [0, 1] o_3l (by simp) (by simp) (by rfl) (by decide) (by simp) (by intro ob hob; simp at hob; rcases hob with rfl | rfl; (split <;> simp [skO, skD]); simp [tapeO]) ?_
 have q1 : ¬ (2305843009213693951 : Int) ≤ key := by unfold hP at hk; omega
 have q2 : ¬ 2305843009213693951 ≤ key := by unfold hP at hk; omega
 have q3 : ¬ (n : Int) < 0 := by omega
 have q4 : ¬ (1048576 : Int) < n := by omega
 have q5 : ¬ 1048576 < n := by omega
 have q6 : IntKind.i64.wrap ((T : Int) + n) = ((T + n : Nat) : Int) := by rw [w64 (by omega) (by omega)]; omega
 have q7 : ¬ (1099511627776 : Int) < (T : Int) + n := by omega
 have q8 : ¬ 1099511627776 < T + n := by omega
 have es : ∀ rs : List Rw, rs.length = 2 → (skO 2 C k a b rs (T + n)) = ⟨106, [.d (.int .i64 (2 : Nat)), .d (.int .i64 C), .d (.int .i64 k), .d (.int .i64 a), .d (.int .i64 b), .d (.sl 2 (rowsD k a b rs)), .d (.int .i64 (T + n : Nat))]⟩ := by intro rs h; simp [skO, skD, h]
 have eo : skO 2 C k a b [⟨A0, B0, l0⟩, ⟨A1, B1, l1⟩] T = ⟨106, [.d (.int .i64 (2 : Nat)), .d (.int .i64 C), .d (.int .i64 k), .d (.int .i64 a), .d (.int .i64 b), .d (.sl 2 [.int .u64 A0, .int .u64 B0, .ptr (arrD k a b l0) 0, .int .u64 A1, .int .u64 B1, .ptr (arrD k a b l1) 0]), .d (.int .i64 T)]⟩ := by simp [skO, skD, rowsD, rowD]
 rw [eo] at hcl ⊢
 simp only [o_2j, arrO, arrV, arrB, vecO, vecB, hD, List.length_set, e0, e1] at hcl o0 o1 x0 x1 ⊢
 generalize hl0 : l0.set (colOf C A0 B0 key) (Z0.y, Z0.t, Z0.f) = m0 at *
 generalize colOf C A0 B0 key = col0 at *
 generalize arrD k a b l0 = AD0 at *
 obtain ⟨E0, Y0, T0, F0, P0, G0⟩ := Z0
 simp only at x0 hU
 generalize hl1 : l1.set (colOf C A1 B1 key) (Z1.y, Z1.t, Z1.f) = m1 at *
 generalize colOf C A1 B1 key = col1 at *
 generalize arrD k a b l1 = AD1 at *
 obtain ⟨E1, Y1, T1, F1, P1, G1⟩ := Z1
 simp only at x1 hU
 generalize nwP C (wdR k a b) = NW at *
 refine A10 (fs q1 (fs q2 (fs q3 (fs q4 (fs q5 (fs q6 (fs q7 q8))))))) ?_; try with_reducible exact tt
 refine CallS.g [0] (hcl) (R0 ?_); try with_reducible exact tt
 refine AW.rounds 3 ?_
 refine A01 o0 ?_; try with_reducible exact tt
 by_cases E00 : E0 = 0
 ·simp only [E00, if_true, u0] at x0
  generalize ((wordsP (wdR k a b) (encs k a b m0)).map fun x : Nat => D.int .u64 x) = WD0 at *
  refine CallS.g [4, 5, 6, 1] (x0) (R0 ?_); try with_reducible exact tt
  refine A01 o1 ?_; try with_reducible exact tt
  by_cases E10 : E1 = 0
  ·simp only [E10, if_true, u1] at x1
   generalize ((wordsP (wdR k a b) (encs k a b m1)).map fun x : Nat => D.int .u64 x) = WD1 at *
   refine CallS.g [7, 8, 9, 1] (x1) (R0 ?_); try with_reducible exact tt
   simp only [updC, if_true, E00, E10] at hU
   subst hU
   simp only [if_true]
   rw [es _ rfl]
   simp only [rowsD, rowD, List.flatMap_cons, List.flatMap_nil, List.append_nil, List.cons_append, List.nil_append, D0, D1]
   have t0 : WD0.take NW = WD0 := List.take_of_length_le (by omega)
   have t1 : WD1.take NW = WD1 := List.take_of_length_le (by omega)
   generalize wdR k a b = w at *
   refine AW.freeze 6 1 ⟨28, WD0.map V.d⟩ WD0 (by simp) rfl ?_
   simp [frzH, t0]
   refine AW.freeze 5 1 ⟨218, [.d (.sl NW WD0), .d (.int .i64 C), .d (.int .i64 w)]⟩ [.sl NW WD0, .int .i64 C, .int .i64 w] (by rfl) rfl ?_
   simp [frzH]
   refine AW.freeze 4 1 ⟨166, [.d (.ptr [.sl NW WD0, .int .i64 C, .int .i64 w] 0), .d (.int .i64 k), .d (.int .i64 a), .d (.int .i64 b)]⟩ [.ptr [.sl NW WD0, .int .i64 C, .int .i64 w] 0, .int .i64 k, .int .i64 a, .int .i64 b] (by rfl) rfl ?_
   simp [frzH]
   refine AW.freeze 9 1 ⟨28, WD1.map V.d⟩ WD1 (by simp) rfl ?_
   simp [frzH, t1]
   refine AW.freeze 8 1 ⟨218, [.d (.sl NW WD1), .d (.int .i64 C), .d (.int .i64 w)]⟩ [.sl NW WD1, .int .i64 C, .int .i64 w] (by rfl) rfl ?_
   simp [frzH]
   refine AW.freeze 7 1 ⟨166, [.d (.ptr [.sl NW WD1, .int .i64 C, .int .i64 w] 0), .d (.int .i64 k), .d (.int .i64 a), .d (.int .i64 b)]⟩ [.ptr [.sl NW WD1, .int .i64 C, .int .i64 w] 0, .int .i64 k, .int .i64 a, .int .i64 b] (by rfl) rfl ?_
   simp [frzH]
   refine AW.freeze 3 3 ⟨111, [.int .u64 A0, .int .u64 B0, .ptr [.ptr [.sl NW WD0, .int .i64 C, .int .i64 w] 0, .int .i64 k, .int .i64 a, .int .i64 b] 0, .int .u64 A1, .int .u64 B1, .ptr [.ptr [.sl NW WD1, .int .i64 C, .int .i64 w] 0, .int .i64 k, .int .i64 a, .int .i64 b] 0].map V.d⟩ [.int .u64 A0, .int .u64 B0, .ptr [.ptr [.sl NW WD0, .int .i64 C, .int .i64 w] 0, .int .i64 k, .int .i64 a, .int .i64 b] 0, .int .u64 A1, .int .u64 B1, .ptr [.ptr [.sl NW WD1, .int .i64 C, .int .i64 w] 0, .int .i64 k, .int .i64 a, .int .i64 b] 0] (by rfl) rfl ?_
   simp [frzH]
   refine A10 q6 ?_; try with_reducible exact tt
  ·simp only [if_neg E10] at x1
   simp only [updC, if_true, if_neg E10, E00] at hU
   refine CallS.g [7, 8, 9, 1] (x1) (R0 ?_); try with_reducible exact tt
   subst hU
   simp only [if_neg E10]
   refine A10 E10 ?_; try with_reducible exact tt
 ·simp only [if_neg E00] at x0
  simp only [updC, if_true, if_neg E00] at hU
  refine CallS.g [4, 5, 6, 1] (x0) (R0 ?_); try with_reducible exact tt
  subst hU
  simp only [if_neg E00]
  refine A10 E00 ?_; try with_reducible exact tt


theorem o_yv {C k a b T : Nat} (hg : GoodR k a b) (g1 : 1 ≤ C) (g2 : C ≤ 64) (A0 B0 A1 B1 A2 B2 : Nat) (l0 l1 l2 : List ST) (h0 : GoodRow C k a b ⟨A0, B0, l0⟩) (h1 : GoodRow C k a b ⟨A1, B1, l1⟩) (h2 : GoodRow C k a b ⟨A2, B2, l2⟩) :
  Eqn Tryz.prog o_2k [.p 0 0] [skO 3 C k a b [⟨A0, B0, l0⟩, ⟨A1, B1, l1⟩, ⟨A2, B2, l2⟩] T] (.p 1 0) [skO 3 C k a b [⟨A0, B0, l0⟩, ⟨A1, B1, l1⟩, ⟨A2, B2, l2⟩] T, ⟨106, [.d (.int .i64 (3 : Nat)), .d (.int .i64 C), .d (.int .i64 k), .d (.int .i64 a), .d (.int .i64 b), .own 2 3 3, .d (.int .i64 T)]⟩, ⟨111, [.d (.int .u64 A0), .d (.int .u64 B0), .p 3 0, .d (.int .u64 A1), .d (.int .u64 B1), .p 6 0, .d (.int .u64 A2), .d (.int .u64 B2), .p 9 0]⟩, arrO 4 k a b, arrV 5 k a b l0, arrB k a b l0, arrO 7 k a b, arrV 8 k a b l1, arrB k a b l1, arrO 10 k a b, arrV 11 k a b l2, arrB k a b l2] := by
 obtain ⟨-, -, e0, -⟩ := h0
 simp only at e0
 obtain ⟨-, -, e1, -⟩ := h1
 simp only at e1
 obtain ⟨-, -, e2, -⟩ := h2
 simp only at e2
 refine Eqn.gen [0, 1, 2, 4, 5, 6, 8, 9, 10, 12, 13, 14] o_3m (by simp) (by simp) (by rfl) (by decide) (by simp) (by simp [skO, skD, arrO, arrV, arrB, vecO, vecB, u64s]) ?_
 have hc := o_4z 3 [.int .u64 A0, .int .u64 B0, .ptr (arrD k a b l0) 0, .int .u64 A1, .int .u64 B1, .ptr (arrD k a b l1) 0, .int .u64 A2, .int .u64 B2, .ptr (arrD k a b l2) 0] (by omega) rfl (by omega)
 have d0 := o_14 l0 hg (by omega) (by omega)
 have d1 := o_14 l1 hg (by omega) (by omega)
 have d2 := o_14 l2 hg (by omega) (by omega)
 simp only [o_2l, skO, skD, rowsD, rowD, List.flatMap_cons, List.flatMap_nil, List.append_nil, List.cons_append, List.nil_append, List.map_cons, List.map_nil, List.length_cons, List.length_nil, arrO, arrV, arrB, vecO, vecB, e0, e1, e2] at hc d0 d1 d2 ⊢
 generalize arrD k a b l0 = AD0 at *
 generalize wordsP (wdR k a b) (encs k a b l0) = WS0 at *
 generalize arrD k a b l1 = AD1 at *
 generalize wordsP (wdR k a b) (encs k a b l1) = WS1 at *
 generalize arrD k a b l2 = AD2 at *
 generalize wordsP (wdR k a b) (encs k a b l2) = WS2 at *
 generalize nwP C (wdR k a b) = NW at *
 generalize wdR k a b = w at *
 refine G0 ?_; try with_reducible exact tt
 refine CallS.g [] (hc) (R0 ?_); try with_reducible exact tt
 refine AW.rounds 4 ?_
 refine A00 ?_; try with_reducible exact tt
 refine CallS.g [] (d0) (R0 ?_); try with_reducible exact tt
 refine A00 ?_; try with_reducible exact tt
 refine CallS.g [] (d1) (R0 ?_); try with_reducible exact tt
 refine A00 ?_; try with_reducible exact tt
 refine CallS.g [] (d2) (R0 ?_); try with_reducible exact tt
 refine A00 ?_; try with_reducible exact tt

set_option maxHeartbeats 4000000 in
theorem o_yw {C k a b T : Nat} (hg : GoodR k a b) (g1 : 1 ≤ C) (g2 : C ≤ 64) (A0 B0 A1 B1 A2 B2 : Nat) (l0 l1 l2 : List ST) (h0 : GoodRow C k a b ⟨A0, B0, l0⟩) (h1 : GoodRow C k a b ⟨A1, B1, l1⟩) (h2 : GoodRow C k a b ⟨A2, B2, l2⟩) (cs : List Bool) (key n p : Nat) (d : Bool) (hk : key < hP) (hn : n ≤ 1048576) (hT : T + n ≤ 1099511627776) (hp : p ≤ cs.length) (hc : cs.length ≤ 4000000) (U : UR) (hU : U = updM cs C k a b key n [⟨A0, B0, l0⟩, ⟨A1, B1, l1⟩, ⟨A2, B2, l2⟩] p d) :
  Eqn Tryz.prog o_1w [.p 0 0, .p 1 0, .d (.int .u64 key), .d (.int .i64 n)] [skO 3 C k a b [⟨A0, B0, l0⟩, ⟨A1, B1, l1⟩, ⟨A2, B2, l2⟩] T, tapeO cs p d] (.d (.int .i64 U.e)) [if U.e = 0 then skO 3 C k a b U.rs (T + n) else skO 3 C k a b [⟨A0, B0, l0⟩, ⟨A1, B1, l1⟩, ⟨A2, B2, l2⟩] T, tapeO cs U.p U.d] := by
 have hcl := o_yv (T := T) hg g1 g2 A0 B0 A1 B1 A2 B2 l0 l1 l2 h0 h1 h2
 obtain ⟨a0, b0, e0, w0⟩ := h0
 simp only at a0 b0 e0 w0
 have c0 : colOf C A0 B0 key < C := Nat.mod_lt _ (by omega)
 have o0 := o_v A0 B0 key C a0 b0 hk g1 g2
 rw [show hsum A0 B0 key % C = colOf C A0 B0 key from rfl] at o0
 obtain ⟨Z0, z0⟩ : ∃ Z, Z = updR cs C k a b key n ⟨A0, B0, l0⟩ p d := ⟨_, rfl⟩
 have p0 : Z0.p ≤ cs.length := by rw [z0]; exact (o_u hg (o_g w0 (show colOf C A0 B0 key < l0.length by omega)) hp hc).1
 have x0 := o_13 cs l0 (colOf C A0 B0 key) n p d hg w0 (by omega) (by omega) hn hp hc Z0 z0
 obtain ⟨a1, b1, e1, w1⟩ := h1
 simp only at a1 b1 e1 w1
 have c1 : colOf C A1 B1 key < C := Nat.mod_lt _ (by omega)
 have o1 := o_v A1 B1 key C a1 b1 hk g1 g2
 rw [show hsum A1 B1 key % C = colOf C A1 B1 key from rfl] at o1
 obtain ⟨Z1, z1⟩ : ∃ Z, Z = updR cs C k a b key n ⟨A1, B1, l1⟩ Z0.p Z0.d := ⟨_, rfl⟩
 have p1 : Z1.p ≤ cs.length := by rw [z1]; exact (o_u hg (o_g w1 (show colOf C A1 B1 key < l1.length by omega)) p0 hc).1
 have x1 := o_13 cs l1 (colOf C A1 B1 key) n Z0.p Z0.d hg w1 (by omega) (by omega) hn p0 hc Z1 z1
 obtain ⟨a2, b2, e2, w2⟩ := h2
 simp only at a2 b2 e2 w2
 have c2 : colOf C A2 B2 key < C := Nat.mod_lt _ (by omega)
 have o2 := o_v A2 B2 key C a2 b2 hk g1 g2
 rw [show hsum A2 B2 key % C = colOf C A2 B2 key from rfl] at o2
 obtain ⟨Z2, z2⟩ : ∃ Z, Z = updR cs C k a b key n ⟨A2, B2, l2⟩ Z1.p Z1.d := ⟨_, rfl⟩
 have p2 : Z2.p ≤ cs.length := by rw [z2]; exact (o_u hg (o_g w2 (show colOf C A2 B2 key < l2.length by omega)) p1 hc).1
 have x2 := o_13 cs l2 (colOf C A2 B2 key) n Z1.p Z1.d hg w2 (by omega) (by omega) hn p1 hc Z2 z2
 simp only [updM] at hU
 rw [← z0] at hU
 rw [← z1] at hU
 rw [← z2] at hU
 clear z0 p0 z1 p1 z2 p2
 have D0 : arrD k a b (l0.set (colOf C A0 B0 key) (Z0.y, Z0.t, Z0.f)) = [.ptr [.sl (nwP C (wdR k a b)) ((wordsP (wdR k a b) (encs k a b (l0.set (colOf C A0 B0 key) (Z0.y, Z0.t, Z0.f)))).map fun x : Nat => D.int .u64 x), .int .i64 C, .int .i64 (wdR k a b)] 0, .int .i64 k, .int .i64 a, .int .i64 b] := by simp [arrD, vecD, e0]
 have L0 : ((wordsP (wdR k a b) (encs k a b (l0.set (colOf C A0 B0 key) (Z0.y, Z0.t, Z0.f)))).map fun x : Nat => D.int .u64 x).length = nwP C (wdR k a b) := by simp [e0]
 have u0 : u64s (wordsP (wdR k a b) (encs k a b (l0.set (colOf C A0 B0 key) (Z0.y, Z0.t, Z0.f)))) = ((wordsP (wdR k a b) (encs k a b (l0.set (colOf C A0 B0 key) (Z0.y, Z0.t, Z0.f)))).map fun x : Nat => D.int .u64 x).map V.d := by simp [u64s]
 have D1 : arrD k a b (l1.set (colOf C A1 B1 key) (Z1.y, Z1.t, Z1.f)) = [.ptr [.sl (nwP C (wdR k a b)) ((wordsP (wdR k a b) (encs k a b (l1.set (colOf C A1 B1 key) (Z1.y, Z1.t, Z1.f)))).map fun x : Nat => D.int .u64 x), .int .i64 C, .int .i64 (wdR k a b)] 0, .int .i64 k, .int .i64 a, .int .i64 b] := by simp [arrD, vecD, e1]
 have L1 : ((wordsP (wdR k a b) (encs k a b (l1.set (colOf C A1 B1 key) (Z1.y, Z1.t, Z1.f)))).map fun x : Nat => D.int .u64 x).length = nwP C (wdR k a b) := by simp [e1]
 have u1 : u64s (wordsP (wdR k a b) (encs k a b (l1.set (colOf C A1 B1 key) (Z1.y, Z1.t, Z1.f)))) = ((wordsP (wdR k a b) (encs k a b (l1.set (colOf C A1 B1 key) (Z1.y, Z1.t, Z1.f)))).map fun x : Nat => D.int .u64 x).map V.d := by simp [u64s]
 have D2 : arrD k a b (l2.set (colOf C A2 B2 key) (Z2.y, Z2.t, Z2.f)) = [.ptr [.sl (nwP C (wdR k a b)) ((wordsP (wdR k a b) (encs k a b (l2.set (colOf C A2 B2 key) (Z2.y, Z2.t, Z2.f)))).map fun x : Nat => D.int .u64 x), .int .i64 C, .int .i64 (wdR k a b)] 0, .int .i64 k, .int .i64 a, .int .i64 b] := by simp [arrD, vecD, e2]
 have L2 : ((wordsP (wdR k a b) (encs k a b (l2.set (colOf C A2 B2 key) (Z2.y, Z2.t, Z2.f)))).map fun x : Nat => D.int .u64 x).length = nwP C (wdR k a b) := by simp [e2]
 have u2 : u64s (wordsP (wdR k a b) (encs k a b (l2.set (colOf C A2 B2 key) (Z2.y, Z2.t, Z2.f)))) = ((wordsP (wdR k a b) (encs k a b (l2.set (colOf C A2 B2 key) (Z2.y, Z2.t, Z2.f)))).map fun x : Nat => D.int .u64 x).map V.d := by simp [u64s]
 refine Eqn.gen [0, 1] o_3l (by simp) (by simp) (by rfl) (by decide) (by simp) (by intro ob hob; simp at hob; rcases hob with rfl | rfl; (split <;> simp [skO, skD]); simp [tapeO]) ?_
 have q1 : ¬ (2305843009213693951 : Int) ≤ key := by unfold hP at hk; omega
 have q2 : ¬ 2305843009213693951 ≤ key := by unfold hP at hk; omega
 have q3 : ¬ (n : Int) < 0 := by omega
 have q4 : ¬ (1048576 : Int) < n := by omega
 have q5 : ¬ 1048576 < n := by omega
 have q6 : IntKind.i64.wrap ((T : Int) + n) = ((T + n : Nat) : Int) := by rw [w64 (by omega) (by omega)]; omega
 have q7 : ¬ (1099511627776 : Int) < (T : Int) + n := by omega
 have q8 : ¬ 1099511627776 < T + n := by omega
 have es : ∀ rs : List Rw, rs.length = 3 → (skO 3 C k a b rs (T + n)) = ⟨106, [.d (.int .i64 (3 : Nat)), .d (.int .i64 C), .d (.int .i64 k), .d (.int .i64 a), .d (.int .i64 b), .d (.sl 3 (rowsD k a b rs)), .d (.int .i64 (T + n : Nat))]⟩ := by intro rs h; simp [skO, skD, h]
 have eo : skO 3 C k a b [⟨A0, B0, l0⟩, ⟨A1, B1, l1⟩, ⟨A2, B2, l2⟩] T = ⟨106, [.d (.int .i64 (3 : Nat)), .d (.int .i64 C), .d (.int .i64 k), .d (.int .i64 a), .d (.int .i64 b), .d (.sl 3 [.int .u64 A0, .int .u64 B0, .ptr (arrD k a b l0) 0, .int .u64 A1, .int .u64 B1, .ptr (arrD k a b l1) 0, .int .u64 A2, .int .u64 B2, .ptr (arrD k a b l2) 0]), .d (.int .i64 T)]⟩ := by simp [skO, skD, rowsD, rowD]
 rw [eo] at hcl ⊢
 simp only [o_2j, arrO, arrV, arrB, vecO, vecB, hD, List.length_set, e0, e1, e2] at hcl o0 o1 o2 x0 x1 x2 ⊢
 generalize hl0 : l0.set (colOf C A0 B0 key) (Z0.y, Z0.t, Z0.f) = m0 at *
 generalize colOf C A0 B0 key = col0 at *
 generalize arrD k a b l0 = AD0 at *
 obtain ⟨E0, Y0, T0, F0, P0, G0⟩ := Z0
 simp only at x0 hU
 generalize hl1 : l1.set (colOf C A1 B1 key) (Z1.y, Z1.t, Z1.f) = m1 at *
 generalize colOf C A1 B1 key = col1 at *
 generalize arrD k a b l1 = AD1 at *
 obtain ⟨E1, Y1, T1, F1, P1, G1⟩ := Z1
 simp only at x1 hU
 generalize hl2 : l2.set (colOf C A2 B2 key) (Z2.y, Z2.t, Z2.f) = m2 at *
 generalize colOf C A2 B2 key = col2 at *
 generalize arrD k a b l2 = AD2 at *
 obtain ⟨E2, Y2, T2, F2, P2, G2⟩ := Z2
 simp only at x2 hU
 generalize nwP C (wdR k a b) = NW at *
 refine A10 (fs q1 (fs q2 (fs q3 (fs q4 (fs q5 (fs q6 (fs q7 q8))))))) ?_; try with_reducible exact tt
 refine CallS.g [0] (hcl) (R0 ?_); try with_reducible exact tt
 refine AW.rounds 4 ?_
 refine A01 o0 ?_; try with_reducible exact tt
 by_cases E00 : E0 = 0
 ·simp only [E00, if_true, u0] at x0
  generalize ((wordsP (wdR k a b) (encs k a b m0)).map fun x : Nat => D.int .u64 x) = WD0 at *
  refine CallS.g [4, 5, 6, 1] (x0) (R0 ?_); try with_reducible exact tt
  refine A01 o1 ?_; try with_reducible exact tt
  by_cases E10 : E1 = 0
  ·simp only [E10, if_true, u1] at x1
   generalize ((wordsP (wdR k a b) (encs k a b m1)).map fun x : Nat => D.int .u64 x) = WD1 at *
   refine CallS.g [7, 8, 9, 1] (x1) (R0 ?_); try with_reducible exact tt
   refine A01 o2 ?_; try with_reducible exact tt
   by_cases E20 : E2 = 0
   ·simp only [E20, if_true, u2] at x2
    generalize ((wordsP (wdR k a b) (encs k a b m2)).map fun x : Nat => D.int .u64 x) = WD2 at *
    refine CallS.g [10, 11, 12, 1] (x2) (R0 ?_); try with_reducible exact tt
    simp only [updC, if_true, E00, E10, E20] at hU
    subst hU
    simp only [if_true]
    rw [es _ rfl]
    simp only [rowsD, rowD, List.flatMap_cons, List.flatMap_nil, List.append_nil, List.cons_append, List.nil_append, D0, D1, D2]
    have t0 : WD0.take NW = WD0 := List.take_of_length_le (by omega)
    have t1 : WD1.take NW = WD1 := List.take_of_length_le (by omega)
    have t2 : WD2.take NW = WD2 := List.take_of_length_le (by omega)
    generalize wdR k a b = w at *
    refine AW.freeze 6 1 ⟨28, WD0.map V.d⟩ WD0 (by simp) rfl ?_
    simp [frzH, t0]
    refine AW.freeze 5 1 ⟨218, [.d (.sl NW WD0), .d (.int .i64 C), .d (.int .i64 w)]⟩ [.sl NW WD0, .int .i64 C, .int .i64 w] (by rfl) rfl ?_
    simp [frzH]
    refine AW.freeze 4 1 ⟨166, [.d (.ptr [.sl NW WD0, .int .i64 C, .int .i64 w] 0), .d (.int .i64 k), .d (.int .i64 a), .d (.int .i64 b)]⟩ [.ptr [.sl NW WD0, .int .i64 C, .int .i64 w] 0, .int .i64 k, .int .i64 a, .int .i64 b] (by rfl) rfl ?_
    simp [frzH]
    refine AW.freeze 9 1 ⟨28, WD1.map V.d⟩ WD1 (by simp) rfl ?_
    simp [frzH, t1]
    refine AW.freeze 8 1 ⟨218, [.d (.sl NW WD1), .d (.int .i64 C), .d (.int .i64 w)]⟩ [.sl NW WD1, .int .i64 C, .int .i64 w] (by rfl) rfl ?_
    simp [frzH]
    refine AW.freeze 7 1 ⟨166, [.d (.ptr [.sl NW WD1, .int .i64 C, .int .i64 w] 0), .d (.int .i64 k), .d (.int .i64 a), .d (.int .i64 b)]⟩ [.ptr [.sl NW WD1, .int .i64 C, .int .i64 w] 0, .int .i64 k, .int .i64 a, .int .i64 b] (by rfl) rfl ?_
    simp [frzH]
    refine AW.freeze 12 1 ⟨28, WD2.map V.d⟩ WD2 (by simp) rfl ?_
    simp [frzH, t2]
    refine AW.freeze 11 1 ⟨218, [.d (.sl NW WD2), .d (.int .i64 C), .d (.int .i64 w)]⟩ [.sl NW WD2, .int .i64 C, .int .i64 w] (by rfl) rfl ?_
    simp [frzH]
    refine AW.freeze 10 1 ⟨166, [.d (.ptr [.sl NW WD2, .int .i64 C, .int .i64 w] 0), .d (.int .i64 k), .d (.int .i64 a), .d (.int .i64 b)]⟩ [.ptr [.sl NW WD2, .int .i64 C, .int .i64 w] 0, .int .i64 k, .int .i64 a, .int .i64 b] (by rfl) rfl ?_
    simp [frzH]
    refine AW.freeze 3 3 ⟨111, [.int .u64 A0, .int .u64 B0, .ptr [.ptr [.sl NW WD0, .int .i64 C, .int .i64 w] 0, .int .i64 k, .int .i64 a, .int .i64 b] 0, .int .u64 A1, .int .u64 B1, .ptr [.ptr [.sl NW WD1, .int .i64 C, .int .i64 w] 0, .int .i64 k, .int .i64 a, .int .i64 b] 0, .int .u64 A2, .int .u64 B2, .ptr [.ptr [.sl NW WD2, .int .i64 C, .int .i64 w] 0, .int .i64 k, .int .i64 a, .int .i64 b] 0].map V.d⟩ [.int .u64 A0, .int .u64 B0, .ptr [.ptr [.sl NW WD0, .int .i64 C, .int .i64 w] 0, .int .i64 k, .int .i64 a, .int .i64 b] 0, .int .u64 A1, .int .u64 B1, .ptr [.ptr [.sl NW WD1, .int .i64 C, .int .i64 w] 0, .int .i64 k, .int .i64 a, .int .i64 b] 0, .int .u64 A2, .int .u64 B2, .ptr [.ptr [.sl NW WD2, .int .i64 C, .int .i64 w] 0, .int .i64 k, .int .i64 a, .int .i64 b] 0] (by rfl) rfl ?_
    simp [frzH]
    refine A10 q6 ?_; try with_reducible exact tt
   ·simp only [if_neg E20] at x2
    simp only [updC, if_true, if_neg E20, E00, E10] at hU
    refine CallS.g [10, 11, 12, 1] (x2) (R0 ?_); try with_reducible exact tt
    subst hU
    simp only [if_neg E20]
    refine A10 E20 ?_; try with_reducible exact tt
  ·simp only [if_neg E10] at x1
   simp only [updC, if_true, if_neg E10, E00] at hU
   refine CallS.g [7, 8, 9, 1] (x1) (R0 ?_); try with_reducible exact tt
   subst hU
   simp only [if_neg E10]
   refine A10 E10 ?_; try with_reducible exact tt
 ·simp only [if_neg E00] at x0
  simp only [updC, if_true, if_neg E00] at hU
  refine CallS.g [4, 5, 6, 1] (x0) (R0 ?_); try with_reducible exact tt
  subst hU
  simp only [if_neg E00]
  refine A10 E00 ?_; try with_reducible exact tt


theorem o_yx {C k a b T : Nat} (hg : GoodR k a b) (g1 : 1 ≤ C) (g2 : C ≤ 64) (A0 B0 A1 B1 A2 B2 A3 B3 : Nat) (l0 l1 l2 l3 : List ST) (h0 : GoodRow C k a b ⟨A0, B0, l0⟩) (h1 : GoodRow C k a b ⟨A1, B1, l1⟩) (h2 : GoodRow C k a b ⟨A2, B2, l2⟩) (h3 : GoodRow C k a b ⟨A3, B3, l3⟩) :
  Eqn Tryz.prog o_2k [.p 0 0] [skO 4 C k a b [⟨A0, B0, l0⟩, ⟨A1, B1, l1⟩, ⟨A2, B2, l2⟩, ⟨A3, B3, l3⟩] T] (.p 1 0) [skO 4 C k a b [⟨A0, B0, l0⟩, ⟨A1, B1, l1⟩, ⟨A2, B2, l2⟩, ⟨A3, B3, l3⟩] T, ⟨106, [.d (.int .i64 (4 : Nat)), .d (.int .i64 C), .d (.int .i64 k), .d (.int .i64 a), .d (.int .i64 b), .own 2 3 4, .d (.int .i64 T)]⟩, ⟨111, [.d (.int .u64 A0), .d (.int .u64 B0), .p 3 0, .d (.int .u64 A1), .d (.int .u64 B1), .p 6 0, .d (.int .u64 A2), .d (.int .u64 B2), .p 9 0, .d (.int .u64 A3), .d (.int .u64 B3), .p 12 0]⟩, arrO 4 k a b, arrV 5 k a b l0, arrB k a b l0, arrO 7 k a b, arrV 8 k a b l1, arrB k a b l1, arrO 10 k a b, arrV 11 k a b l2, arrB k a b l2, arrO 13 k a b, arrV 14 k a b l3, arrB k a b l3] := by
 obtain ⟨-, -, e0, -⟩ := h0
 simp only at e0
 obtain ⟨-, -, e1, -⟩ := h1
 simp only at e1
 obtain ⟨-, -, e2, -⟩ := h2
 simp only at e2
 obtain ⟨-, -, e3, -⟩ := h3
 simp only at e3
 refine Eqn.gen [0, 1, 2, 4, 5, 6, 8, 9, 10, 12, 13, 14, 16, 17, 18] o_3m (by simp) (by simp) (by rfl) (by decide) (by simp) (by simp [skO, skD, arrO, arrV, arrB, vecO, vecB, u64s]) ?_
 have hc := o_4z 4 [.int .u64 A0, .int .u64 B0, .ptr (arrD k a b l0) 0, .int .u64 A1, .int .u64 B1, .ptr (arrD k a b l1) 0, .int .u64 A2, .int .u64 B2, .ptr (arrD k a b l2) 0, .int .u64 A3, .int .u64 B3, .ptr (arrD k a b l3) 0] (by omega) rfl (by omega)
 have d0 := o_14 l0 hg (by omega) (by omega)
 have d1 := o_14 l1 hg (by omega) (by omega)
 have d2 := o_14 l2 hg (by omega) (by omega)
 have d3 := o_14 l3 hg (by omega) (by omega)
 simp only [o_2l, skO, skD, rowsD, rowD, List.flatMap_cons, List.flatMap_nil, List.append_nil, List.cons_append, List.nil_append, List.map_cons, List.map_nil, List.length_cons, List.length_nil, arrO, arrV, arrB, vecO, vecB, e0, e1, e2, e3] at hc d0 d1 d2 d3 ⊢
 generalize arrD k a b l0 = AD0 at *
 generalize wordsP (wdR k a b) (encs k a b l0) = WS0 at *
 generalize arrD k a b l1 = AD1 at *
 generalize wordsP (wdR k a b) (encs k a b l1) = WS1 at *
 generalize arrD k a b l2 = AD2 at *
 generalize wordsP (wdR k a b) (encs k a b l2) = WS2 at *
 generalize arrD k a b l3 = AD3 at *
 generalize wordsP (wdR k a b) (encs k a b l3) = WS3 at *
 generalize nwP C (wdR k a b) = NW at *
 generalize wdR k a b = w at *
 refine G0 ?_; try with_reducible exact tt
 refine CallS.g [] (hc) (R0 ?_); try with_reducible exact tt
 refine AW.rounds 5 ?_
 refine A00 ?_; try with_reducible exact tt
 refine CallS.g [] (d0) (R0 ?_); try with_reducible exact tt
 refine A00 ?_; try with_reducible exact tt
 refine CallS.g [] (d1) (R0 ?_); try with_reducible exact tt
 refine A00 ?_; try with_reducible exact tt
 refine CallS.g [] (d2) (R0 ?_); try with_reducible exact tt
 refine A00 ?_; try with_reducible exact tt
 refine CallS.g [] (d3) (R0 ?_); try with_reducible exact tt
 refine A00 ?_; try with_reducible exact tt

set_option maxHeartbeats 4000000 in
theorem o_yy {C k a b T : Nat} (hg : GoodR k a b) (g1 : 1 ≤ C) (g2 : C ≤ 64) (A0 B0 A1 B1 A2 B2 A3 B3 : Nat) (l0 l1 l2 l3 : List ST) (h0 : GoodRow C k a b ⟨A0, B0, l0⟩) (h1 : GoodRow C k a b ⟨A1, B1, l1⟩) (h2 : GoodRow C k a b ⟨A2, B2, l2⟩) (h3 : GoodRow C k a b ⟨A3, B3, l3⟩) (cs : List Bool) (key n p : Nat) (d : Bool) (hk : key < hP) (hn : n ≤ 1048576) (hT : T + n ≤ 1099511627776) (hp : p ≤ cs.length) (hc : cs.length ≤ 4000000) (U : UR) (hU : U = updM cs C k a b key n [⟨A0, B0, l0⟩, ⟨A1, B1, l1⟩, ⟨A2, B2, l2⟩, ⟨A3, B3, l3⟩] p d) :
  Eqn Tryz.prog o_1w [.p 0 0, .p 1 0, .d (.int .u64 key), .d (.int .i64 n)] [skO 4 C k a b [⟨A0, B0, l0⟩, ⟨A1, B1, l1⟩, ⟨A2, B2, l2⟩, ⟨A3, B3, l3⟩] T, tapeO cs p d] (.d (.int .i64 U.e)) [if U.e = 0 then skO 4 C k a b U.rs (T + n) else skO 4 C k a b [⟨A0, B0, l0⟩, ⟨A1, B1, l1⟩, ⟨A2, B2, l2⟩, ⟨A3, B3, l3⟩] T, tapeO cs U.p U.d] := by
 have hcl := o_yx (T := T) hg g1 g2 A0 B0 A1 B1 A2 B2 A3 B3 l0 l1 l2 l3 h0 h1 h2 h3
 obtain ⟨a0, b0, e0, w0⟩ := h0
 simp only at a0 b0 e0 w0
 have c0 : colOf C A0 B0 key < C := Nat.mod_lt _ (by omega)
 have o0 := o_v A0 B0 key C a0 b0 hk g1 g2
 rw [show hsum A0 B0 key % C = colOf C A0 B0 key from rfl] at o0
 obtain ⟨Z0, z0⟩ : ∃ Z, Z = updR cs C k a b key n ⟨A0, B0, l0⟩ p d := ⟨_, rfl⟩
 have p0 : Z0.p ≤ cs.length := by rw [z0]; exact (o_u hg (o_g w0 (show colOf C A0 B0 key < l0.length by omega)) hp hc).1
 have x0 := o_13 cs l0 (colOf C A0 B0 key) n p d hg w0 (by omega) (by omega) hn hp hc Z0 z0
 obtain ⟨a1, b1, e1, w1⟩ := h1
 simp only at a1 b1 e1 w1
 have c1 : colOf C A1 B1 key < C := Nat.mod_lt _ (by omega)
 have o1 := o_v A1 B1 key C a1 b1 hk g1 g2
 rw [show hsum A1 B1 key % C = colOf C A1 B1 key from rfl] at o1
 obtain ⟨Z1, z1⟩ : ∃ Z, Z = updR cs C k a b key n ⟨A1, B1, l1⟩ Z0.p Z0.d := ⟨_, rfl⟩
 have p1 : Z1.p ≤ cs.length := by rw [z1]; exact (o_u hg (o_g w1 (show colOf C A1 B1 key < l1.length by omega)) p0 hc).1
 have x1 := o_13 cs l1 (colOf C A1 B1 key) n Z0.p Z0.d hg w1 (by omega) (by omega) hn p0 hc Z1 z1
 obtain ⟨a2, b2, e2, w2⟩ := h2
 simp only at a2 b2 e2 w2
 have c2 : colOf C A2 B2 key < C := Nat.mod_lt _ (by omega)
 have o2 := o_v A2 B2 key C a2 b2 hk g1 g2
 rw [show hsum A2 B2 key % C = colOf C A2 B2 key from rfl] at o2
 obtain ⟨Z2, z2⟩ : ∃ Z, Z = updR cs C k a b key n ⟨A2, B2, l2⟩ Z1.p Z1.d := ⟨_, rfl⟩
 have p2 : Z2.p ≤ cs.length := by rw [z2]; exact (o_u hg (o_g w2 (show colOf C A2 B2 key < l2.length by omega)) p1 hc).1
 have x2 := o_13 cs l2 (colOf C A2 B2 key) n Z1.p Z1.d hg w2 (by omega) (by omega) hn p1 hc Z2 z2
 obtain ⟨a3, b3, e3, w3⟩ := h3
 simp only at a3 b3 e3 w3
 have c3 : colOf C A3 B3 key < C := Nat.mod_lt _ (by omega)
 have o3 := o_v A3 B3 key C a3 b3 hk g1 g2
 rw [show hsum A3 B3 key % C = colOf C A3 B3 key from rfl] at o3
 obtain ⟨Z3, z3⟩ : ∃ Z, Z = updR cs C k a b key n ⟨A3, B3, l3⟩ Z2.p Z2.d := ⟨_, rfl⟩
 have p3 : Z3.p ≤ cs.length := by rw [z3]; exact (o_u hg (o_g w3 (show colOf C A3 B3 key < l3.length by omega)) p2 hc).1
 have x3 := o_13 cs l3 (colOf C A3 B3 key) n Z2.p Z2.d hg w3 (by omega) (by omega) hn p2 hc Z3 z3
 simp only [updM] at hU
 rw [← z0] at hU
 rw [← z1] at hU
 rw [← z2] at hU
 rw [← z3] at hU
 clear z0 p0 z1 p1 z2 p2 z3 p3
 have D0 : arrD k a b (l0.set (colOf C A0 B0 key) (Z0.y, Z0.t, Z0.f)) = [.ptr [.sl (nwP C (wdR k a b)) ((wordsP (wdR k a b) (encs k a b (l0.set (colOf C A0 B0 key) (Z0.y, Z0.t, Z0.f)))).map fun x : Nat => D.int .u64 x), .int .i64 C, .int .i64 (wdR k a b)] 0, .int .i64 k, .int .i64 a, .int .i64 b] := by simp [arrD, vecD, e0]
 have L0 : ((wordsP (wdR k a b) (encs k a b (l0.set (colOf C A0 B0 key) (Z0.y, Z0.t, Z0.f)))).map fun x : Nat => D.int .u64 x).length = nwP C (wdR k a b) := by simp [e0]
 have u0 : u64s (wordsP (wdR k a b) (encs k a b (l0.set (colOf C A0 B0 key) (Z0.y, Z0.t, Z0.f)))) = ((wordsP (wdR k a b) (encs k a b (l0.set (colOf C A0 B0 key) (Z0.y, Z0.t, Z0.f)))).map fun x : Nat => D.int .u64 x).map V.d := by simp [u64s]
 have D1 : arrD k a b (l1.set (colOf C A1 B1 key) (Z1.y, Z1.t, Z1.f)) = [.ptr [.sl (nwP C (wdR k a b)) ((wordsP (wdR k a b) (encs k a b (l1.set (colOf C A1 B1 key) (Z1.y, Z1.t, Z1.f)))).map fun x : Nat => D.int .u64 x), .int .i64 C, .int .i64 (wdR k a b)] 0, .int .i64 k, .int .i64 a, .int .i64 b] := by simp [arrD, vecD, e1]
 have L1 : ((wordsP (wdR k a b) (encs k a b (l1.set (colOf C A1 B1 key) (Z1.y, Z1.t, Z1.f)))).map fun x : Nat => D.int .u64 x).length = nwP C (wdR k a b) := by simp [e1]
 have u1 : u64s (wordsP (wdR k a b) (encs k a b (l1.set (colOf C A1 B1 key) (Z1.y, Z1.t, Z1.f)))) = ((wordsP (wdR k a b) (encs k a b (l1.set (colOf C A1 B1 key) (Z1.y, Z1.t, Z1.f)))).map fun x : Nat => D.int .u64 x).map V.d := by simp [u64s]
 have D2 : arrD k a b (l2.set (colOf C A2 B2 key) (Z2.y, Z2.t, Z2.f)) = [.ptr [.sl (nwP C (wdR k a b)) ((wordsP (wdR k a b) (encs k a b (l2.set (colOf C A2 B2 key) (Z2.y, Z2.t, Z2.f)))).map fun x : Nat => D.int .u64 x), .int .i64 C, .int .i64 (wdR k a b)] 0, .int .i64 k, .int .i64 a, .int .i64 b] := by simp [arrD, vecD, e2]
 have L2 : ((wordsP (wdR k a b) (encs k a b (l2.set (colOf C A2 B2 key) (Z2.y, Z2.t, Z2.f)))).map fun x : Nat => D.int .u64 x).length = nwP C (wdR k a b) := by simp [e2]
 have u2 : u64s (wordsP (wdR k a b) (encs k a b (l2.set (colOf C A2 B2 key) (Z2.y, Z2.t, Z2.f)))) = ((wordsP (wdR k a b) (encs k a b (l2.set (colOf C A2 B2 key) (Z2.y, Z2.t, Z2.f)))).map fun x : Nat => D.int .u64 x).map V.d := by simp [u64s]
 have D3 : arrD k a b (l3.set (colOf C A3 B3 key) (Z3.y, Z3.t, Z3.f)) = [.ptr [.sl (nwP C (wdR k a b)) ((wordsP (wdR k a b) (encs k a b (l3.set (colOf C A3 B3 key) (Z3.y, Z3.t, Z3.f)))).map fun x : Nat => D.int .u64 x), .int .i64 C, .int .i64 (wdR k a b)] 0, .int .i64 k, .int .i64 a, .int .i64 b] := by simp [arrD, vecD, e3]
 have L3 : ((wordsP (wdR k a b) (encs k a b (l3.set (colOf C A3 B3 key) (Z3.y, Z3.t, Z3.f)))).map fun x : Nat => D.int .u64 x).length = nwP C (wdR k a b) := by simp [e3]
 have u3 : u64s (wordsP (wdR k a b) (encs k a b (l3.set (colOf C A3 B3 key) (Z3.y, Z3.t, Z3.f)))) = ((wordsP (wdR k a b) (encs k a b (l3.set (colOf C A3 B3 key) (Z3.y, Z3.t, Z3.f)))).map fun x : Nat => D.int .u64 x).map V.d := by simp [u64s]
 refine Eqn.gen [0, 1] o_3l (by simp) (by simp) (by rfl) (by decide) (by simp) (by intro ob hob; simp at hob; rcases hob with rfl | rfl; (split <;> simp [skO, skD]); simp [tapeO]) ?_
 have q1 : ¬ (2305843009213693951 : Int) ≤ key := by unfold hP at hk; omega
 have q2 : ¬ 2305843009213693951 ≤ key := by unfold hP at hk; omega
 have q3 : ¬ (n : Int) < 0 := by omega
 have q4 : ¬ (1048576 : Int) < n := by omega
 have q5 : ¬ 1048576 < n := by omega
 have q6 : IntKind.i64.wrap ((T : Int) + n) = ((T + n : Nat) : Int) := by rw [w64 (by omega) (by omega)]; omega
 have q7 : ¬ (1099511627776 : Int) < (T : Int) + n := by omega
 have q8 : ¬ 1099511627776 < T + n := by omega
 have es : ∀ rs : List Rw, rs.length = 4 → (skO 4 C k a b rs (T + n)) = ⟨106, [.d (.int .i64 (4 : Nat)), .d (.int .i64 C), .d (.int .i64 k), .d (.int .i64 a), .d (.int .i64 b), .d (.sl 4 (rowsD k a b rs)), .d (.int .i64 (T + n : Nat))]⟩ := by intro rs h; simp [skO, skD, h]
 have eo : skO 4 C k a b [⟨A0, B0, l0⟩, ⟨A1, B1, l1⟩, ⟨A2, B2, l2⟩, ⟨A3, B3, l3⟩] T = ⟨106, [.d (.int .i64 (4 : Nat)), .d (.int .i64 C), .d (.int .i64 k), .d (.int .i64 a), .d (.int .i64 b), .d (.sl 4 [.int .u64 A0, .int .u64 B0, .ptr (arrD k a b l0) 0, .int .u64 A1, .int .u64 B1, .ptr (arrD k a b l1) 0, .int .u64 A2, .int .u64 B2, .ptr (arrD k a b l2) 0, .int .u64 A3, .int .u64 B3, .ptr (arrD k a b l3) 0]), .d (.int .i64 T)]⟩ := by simp [skO, skD, rowsD, rowD]
 rw [eo] at hcl ⊢
 simp only [o_2j, arrO, arrV, arrB, vecO, vecB, hD, List.length_set, e0, e1, e2, e3] at hcl o0 o1 o2 o3 x0 x1 x2 x3 ⊢
 generalize hl0 : l0.set (colOf C A0 B0 key) (Z0.y, Z0.t, Z0.f) = m0 at *
 generalize colOf C A0 B0 key = col0 at *
 generalize arrD k a b l0 = AD0 at *
 obtain ⟨E0, Y0, T0, F0, P0, G0⟩ := Z0
 simp only at x0 hU
 generalize hl1 : l1.set (colOf C A1 B1 key) (Z1.y, Z1.t, Z1.f) = m1 at *
 generalize colOf C A1 B1 key = col1 at *
 generalize arrD k a b l1 = AD1 at *
 obtain ⟨E1, Y1, T1, F1, P1, G1⟩ := Z1
 simp only at x1 hU
 generalize hl2 : l2.set (colOf C A2 B2 key) (Z2.y, Z2.t, Z2.f) = m2 at *
 generalize colOf C A2 B2 key = col2 at *
 generalize arrD k a b l2 = AD2 at *
 obtain ⟨E2, Y2, T2, F2, P2, G2⟩ := Z2
 simp only at x2 hU
 generalize hl3 : l3.set (colOf C A3 B3 key) (Z3.y, Z3.t, Z3.f) = m3 at *
 generalize colOf C A3 B3 key = col3 at *
 generalize arrD k a b l3 = AD3 at *
 obtain ⟨E3, Y3, T3, F3, P3, G3⟩ := Z3
 simp only at x3 hU
 generalize nwP C (wdR k a b) = NW at *
 refine A10 (fs q1 (fs q2 (fs q3 (fs q4 (fs q5 (fs q6 (fs q7 q8))))))) ?_; try with_reducible exact tt
 refine CallS.g [0] (hcl) (R0 ?_); try with_reducible exact tt
 refine AW.rounds 5 ?_
 refine A01 o0 ?_; try with_reducible exact tt
 by_cases E00 : E0 = 0
 ·simp only [E00, if_true, u0] at x0
  generalize ((wordsP (wdR k a b) (encs k a b m0)).map fun x : Nat => D.int .u64 x) = WD0 at *
  refine CallS.g [4, 5, 6, 1] (x0) (R0 ?_); try with_reducible exact tt
  refine A01 o1 ?_; try with_reducible exact tt
  by_cases E10 : E1 = 0
  ·simp only [E10, if_true, u1] at x1
   generalize ((wordsP (wdR k a b) (encs k a b m1)).map fun x : Nat => D.int .u64 x) = WD1 at *
   refine CallS.g [7, 8, 9, 1] (x1) (R0 ?_); try with_reducible exact tt
   refine A01 o2 ?_; try with_reducible exact tt
   by_cases E20 : E2 = 0
   ·simp only [E20, if_true, u2] at x2
    generalize ((wordsP (wdR k a b) (encs k a b m2)).map fun x : Nat => D.int .u64 x) = WD2 at *
    refine CallS.g [10, 11, 12, 1] (x2) (R0 ?_); try with_reducible exact tt
    refine A01 o3 ?_; try with_reducible exact tt
    by_cases E30 : E3 = 0
    ·simp only [E30, if_true, u3] at x3
     generalize ((wordsP (wdR k a b) (encs k a b m3)).map fun x : Nat => D.int .u64 x) = WD3 at *
     refine CallS.g [13, 14, 15, 1] (x3) (R0 ?_); try with_reducible exact tt
     simp only [updC, if_true, E00, E10, E20, E30] at hU
     subst hU
     simp only [if_true]
     rw [es _ rfl]
     simp only [rowsD, rowD, List.flatMap_cons, List.flatMap_nil, List.append_nil, List.cons_append, List.nil_append, D0, D1, D2, D3]
     have t0 : WD0.take NW = WD0 := List.take_of_length_le (by omega)
     have t1 : WD1.take NW = WD1 := List.take_of_length_le (by omega)
     have t2 : WD2.take NW = WD2 := List.take_of_length_le (by omega)
     have t3 : WD3.take NW = WD3 := List.take_of_length_le (by omega)
     generalize wdR k a b = w at *
     refine AW.freeze 6 1 ⟨28, WD0.map V.d⟩ WD0 (by simp) rfl ?_
     simp [frzH, t0]
     refine AW.freeze 5 1 ⟨218, [.d (.sl NW WD0), .d (.int .i64 C), .d (.int .i64 w)]⟩ [.sl NW WD0, .int .i64 C, .int .i64 w] (by rfl) rfl ?_
     simp [frzH]
     refine AW.freeze 4 1 ⟨166, [.d (.ptr [.sl NW WD0, .int .i64 C, .int .i64 w] 0), .d (.int .i64 k), .d (.int .i64 a), .d (.int .i64 b)]⟩ [.ptr [.sl NW WD0, .int .i64 C, .int .i64 w] 0, .int .i64 k, .int .i64 a, .int .i64 b] (by rfl) rfl ?_
     simp [frzH]
     refine AW.freeze 9 1 ⟨28, WD1.map V.d⟩ WD1 (by simp) rfl ?_
     simp [frzH, t1]
     refine AW.freeze 8 1 ⟨218, [.d (.sl NW WD1), .d (.int .i64 C), .d (.int .i64 w)]⟩ [.sl NW WD1, .int .i64 C, .int .i64 w] (by rfl) rfl ?_
     simp [frzH]
     refine AW.freeze 7 1 ⟨166, [.d (.ptr [.sl NW WD1, .int .i64 C, .int .i64 w] 0), .d (.int .i64 k), .d (.int .i64 a), .d (.int .i64 b)]⟩ [.ptr [.sl NW WD1, .int .i64 C, .int .i64 w] 0, .int .i64 k, .int .i64 a, .int .i64 b] (by rfl) rfl ?_
     simp [frzH]
     refine AW.freeze 12 1 ⟨28, WD2.map V.d⟩ WD2 (by simp) rfl ?_
     simp [frzH, t2]
     refine AW.freeze 11 1 ⟨218, [.d (.sl NW WD2), .d (.int .i64 C), .d (.int .i64 w)]⟩ [.sl NW WD2, .int .i64 C, .int .i64 w] (by rfl) rfl ?_
     simp [frzH]
     refine AW.freeze 10 1 ⟨166, [.d (.ptr [.sl NW WD2, .int .i64 C, .int .i64 w] 0), .d (.int .i64 k), .d (.int .i64 a), .d (.int .i64 b)]⟩ [.ptr [.sl NW WD2, .int .i64 C, .int .i64 w] 0, .int .i64 k, .int .i64 a, .int .i64 b] (by rfl) rfl ?_
     simp [frzH]
     refine AW.freeze 15 1 ⟨28, WD3.map V.d⟩ WD3 (by simp) rfl ?_
     simp [frzH, t3]
     refine AW.freeze 14 1 ⟨218, [.d (.sl NW WD3), .d (.int .i64 C), .d (.int .i64 w)]⟩ [.sl NW WD3, .int .i64 C, .int .i64 w] (by rfl) rfl ?_
     simp [frzH]
     refine AW.freeze 13 1 ⟨166, [.d (.ptr [.sl NW WD3, .int .i64 C, .int .i64 w] 0), .d (.int .i64 k), .d (.int .i64 a), .d (.int .i64 b)]⟩ [.ptr [.sl NW WD3, .int .i64 C, .int .i64 w] 0, .int .i64 k, .int .i64 a, .int .i64 b] (by rfl) rfl ?_
     simp [frzH]
     refine AW.freeze 3 3 ⟨111, [.int .u64 A0, .int .u64 B0, .ptr [.ptr [.sl NW WD0, .int .i64 C, .int .i64 w] 0, .int .i64 k, .int .i64 a, .int .i64 b] 0, .int .u64 A1, .int .u64 B1, .ptr [.ptr [.sl NW WD1, .int .i64 C, .int .i64 w] 0, .int .i64 k, .int .i64 a, .int .i64 b] 0, .int .u64 A2, .int .u64 B2, .ptr [.ptr [.sl NW WD2, .int .i64 C, .int .i64 w] 0, .int .i64 k, .int .i64 a, .int .i64 b] 0, .int .u64 A3, .int .u64 B3, .ptr [.ptr [.sl NW WD3, .int .i64 C, .int .i64 w] 0, .int .i64 k, .int .i64 a, .int .i64 b] 0].map V.d⟩ [.int .u64 A0, .int .u64 B0, .ptr [.ptr [.sl NW WD0, .int .i64 C, .int .i64 w] 0, .int .i64 k, .int .i64 a, .int .i64 b] 0, .int .u64 A1, .int .u64 B1, .ptr [.ptr [.sl NW WD1, .int .i64 C, .int .i64 w] 0, .int .i64 k, .int .i64 a, .int .i64 b] 0, .int .u64 A2, .int .u64 B2, .ptr [.ptr [.sl NW WD2, .int .i64 C, .int .i64 w] 0, .int .i64 k, .int .i64 a, .int .i64 b] 0, .int .u64 A3, .int .u64 B3, .ptr [.ptr [.sl NW WD3, .int .i64 C, .int .i64 w] 0, .int .i64 k, .int .i64 a, .int .i64 b] 0] (by rfl) rfl ?_
     simp [frzH]
     refine A10 q6 ?_; try with_reducible exact tt
    ·simp only [if_neg E30] at x3
     simp only [updC, if_true, if_neg E30, E00, E10, E20] at hU
     refine CallS.g [13, 14, 15, 1] (x3) (R0 ?_); try with_reducible exact tt
     subst hU
     simp only [if_neg E30]
     refine A10 E30 ?_; try with_reducible exact tt
   ·simp only [if_neg E20] at x2
    simp only [updC, if_true, if_neg E20, E00, E10] at hU
    refine CallS.g [10, 11, 12, 1] (x2) (R0 ?_); try with_reducible exact tt
    subst hU
    simp only [if_neg E20]
    refine A10 E20 ?_; try with_reducible exact tt
  ·simp only [if_neg E10] at x1
   simp only [updC, if_true, if_neg E10, E00] at hU
   refine CallS.g [7, 8, 9, 1] (x1) (R0 ?_); try with_reducible exact tt
   subst hU
   simp only [if_neg E10]
   refine A10 E10 ?_; try with_reducible exact tt
 ·simp only [if_neg E00] at x0
  simp only [updC, if_true, if_neg E00] at hU
  refine CallS.g [4, 5, 6, 1] (x0) (R0 ?_); try with_reducible exact tt
  subst hU
  simp only [if_neg E00]
  refine A10 E00 ?_; try with_reducible exact tt
end
end Go.Proofs.YtijbgbpjionfjaaGreatDoor.Am
namespace Go.Proofs.YtijbgbpjionfjaaGreatDoor.Am
section
open Go.RowKit
theorem o_yz {R C k a b T : Nat} (hg : GoodR k a b) (g1 : 1 ≤ C) (g2 : C ≤ 64) (rs : List Rw) (hR : rs.length = R) (h1 : 1 ≤ R) (h4 : R ≤ 4) (hr : ∀ r ∈ rs, GoodRow C k a b r) (cs : List Bool) (key n p : Nat) (d : Bool) (hk : key < hP) (hn : n ≤ 1048576) (hT : T + n ≤ 1099511627776) (hp : p ≤ cs.length) (hc : cs.length ≤ 4000000) (U : UR) (hU : U = updM cs C k a b key n rs p d) :
  Eqn Tryz.prog o_1w [.p 0 0, .p 1 0, .d (.int .u64 key), .d (.int .i64 n)] [skO R C k a b rs T, tapeO cs p d] (.d (.int .i64 U.e)) [if U.e = 0 then skO R C k a b U.rs (T + n) else skO R C k a b rs T, tapeO cs U.p U.d] := by
 subst hR
 match rs, h1, h4, hr, hU with
 | [⟨A0, B0, l0⟩], _, _, hr, hU =>
  have h0 := hr _ (List.mem_cons_self)
  have h := o_8v (T := T) hg g1 g2 A0 B0 l0 h0 cs key n p d hk hn hT hp hc _ rfl
  obtain ⟨Z, hZ⟩ : ∃ Z, Z = updR cs C k a b key n ⟨A0, B0, l0⟩ p d := ⟨_, rfl⟩
  rw [show addRM cs k a b n (l0.getD (colOf C A0 B0 key) (0, 0, false)).1 (l0.getD (colOf C A0 B0 key) (0, 0, false)).2.1 (l0.getD (colOf C A0 B0 key) (0, 0, false)).2.2 p d = Z from hZ.symm] at h
  simp only [updM] at hU
  rw [← hZ] at hU
  subst hU
  unfold updC
  by_cases he : Z.e = 0
  ·rw [if_pos he] at h
   simp only [if_pos he, if_true]
   rw [he] at h
   exact h
  ·rw [if_neg he] at h
   simp only [if_neg he]
   exact h
 | [⟨A0, B0, l0⟩, ⟨A1, B1, l1⟩], _, _, hr, hU => exact o_yu hg g1 g2 A0 B0 A1 B1 l0 l1 (hr _ (by simp)) (hr _ (by simp)) cs key n p d hk hn hT hp hc U hU
 | [⟨A0, B0, l0⟩, ⟨A1, B1, l1⟩, ⟨A2, B2, l2⟩], _, _, hr, hU => exact o_yw hg g1 g2 A0 B0 A1 B1 A2 B2 l0 l1 l2 (hr _ (by simp)) (hr _ (by simp)) (hr _ (by simp)) cs key n p d hk hn hT hp hc U hU
 | [⟨A0, B0, l0⟩, ⟨A1, B1, l1⟩, ⟨A2, B2, l2⟩, ⟨A3, B3, l3⟩], _, _, hr, hU => exact o_yy hg g1 g2 A0 B0 A1 B1 A2 B2 A3 B3 l0 l1 l2 l3 (hr _ (by simp)) (hr _ (by simp)) (hr _ (by simp)) (hr _ (by simp)) cs key n p d hk hn hT hp hc U hU

theorem o_z0 {R C k a b T : Nat} (rs : List Rw) : Eqn Tryz.prog o_be [.p 0 0] [skO R C k a b rs T] (.d (.int .i64 T)) [skO R C k a b rs T] := by
 refine Eqn.gen [0] o_oj (by simp) (by simp) (by rfl) (by decide) (by simp) (by simp [skO, skD]) ?_
 simp only [o_bf, skO, skD, List.map_cons, List.map_nil]
 refine A00 ?_; try with_reducible exact tt

theorem o_z1 (key : Nat) (n : Int) (h : key < 18446744073709551616) : Eqn Tryz.prog o_b7 [.d (.agg [.int .u64 key, .int .i64 n])] [] (.d (.int .u64 (key % hP : Nat))) [] := by
 refine Eqn.pure o_og Plain.ok ?_
 have e : (key : Int).tmod 2305843009213693951 = ((key % hP : Nat) : Int) := by rw [Int.tmod_eq_emod_of_nonneg (by omega)]; unfold hP; omega
 generalize key % hP = q at *
 simp only [o_b8]
 refine A10 e ?_; try with_reducible exact tt
end
end Go.Proofs.YtijbgbpjionfjaaGreatDoor.Am
namespace Go.Proofs.YtijbgbpjionfjaaGreatDoor.Am
section
open Go.RowKit
theorem o_m1 {I : Nat → Prop} {w : World} {α : Type} (f : α → List D) (g : α → List Value) (h : ∀ a, D.reps I w (f a) (g a)) : ∀ l : List α, D.reps I w (l.flatMap f) (l.map g).flatten
 | [] => by simp
 | a :: l => by
  rw [List.flatMap_cons, List.map_cons, List.flatten_cons]
  exact D.reps_append (h a) (o_m1 f g h l)
theorem o_z2 {W : World} {v : Value} {s : Nat} {α : Type} {l : List α} (f : α → List D) (g : α → List Value) (hg : ∀ a, ∀ u ∈ g a, u.oneCell' = true) (hr : ∀ a, D.reps (fun b => b < W.heap.size) W (f a) (g a)) (h : Cells W v s l.length (l.map g).flatten) : V.rep (memW W) (.d (.sl l.length (l.flatMap f))) v := by
 rw [V.rep_d]
 unfold D.rep
 obtain ⟨h1, p, cap, rfl, h2, h3, h4⟩ := h
 refine ⟨p, cap, rfl, h2, h3, (l.map g).flatten, fun u hu => ?_, o_m1 f g hr l, ?_⟩
 ·obtain ⟨x, hx, hu⟩ := List.mem_flatten.1 hu
  obtain ⟨a, -, rfl⟩ := List.mem_map.1 hx
  exact hg a u hu
 ·rcases h4 with ⟨rfl, h5, h6⟩ | ⟨b, o, rfl, hb, hc⟩
  ·left
   have : l = [] := List.eq_nil_of_length_eq_zero h5
   subst this
   exact ⟨rfl, h6, rfl⟩
  ·exact .inr ⟨b, o, rfl, .inr hb, hc⟩
end
end Go.Proofs.YtijbgbpjionfjaaGreatDoor.Am
namespace Go.Proofs.YtijbgbpjionfjaaGreatDoor.Am
section
open Go.RowKit
theorem o_9a : ∀ {L : List Int}, (∀ a ∈ L, (Lit.int .u64 a).wf = true) → ∃ ws : List Nat, L = ws.map (fun n : Nat => (n : Int)) ∧ ∀ x ∈ ws, x < 18446744073709551616
 | [], _ => ⟨[], rfl, by simp⟩
 | a :: L, h => by
  obtain ⟨ws, rfl, hw⟩ := o_9a (L := L) fun b hb => h b (List.mem_cons_of_mem _ hb)
  have ha := h a (List.mem_cons_self)
  unfold Lit.wf at ha
  simp only [Bool.and_eq_true, decide_eq_true_eq] at ha
  have h0 : (0 : Int) ≤ a := ha.1
  have h1 : a ≤ 18446744073709551615 := ha.2
  refine ⟨a.toNat :: ws, by simp [Int.toNat_of_nonneg h0], fun x hx => ?_⟩
  rcases List.mem_cons.1 hx with rfl | hx
  ·omega
  ·exact hw x hx
theorem o_m2 : ∀ {L : List (Int × Int)}, (∀ a ∈ L, (Lit.int .u64 a.1).wf = true ∧ (Lit.int .i64 a.2).wf = true) → ∃ us : List (Nat × Int), L = us.map (fun u => ((u.1 : Int), u.2)) ∧ ∀ u ∈ us, u.1 < 18446744073709551616
 | [], _ => ⟨[], rfl, by simp⟩
 | (a, b) :: L, h => by
  obtain ⟨us, rfl, hw⟩ := o_m2 (L := L) fun b hb => h b (List.mem_cons_of_mem _ hb)
  have ha := (h (a, b) (List.mem_cons_self)).1
  unfold Lit.wf at ha
  simp only [Bool.and_eq_true, decide_eq_true_eq] at ha
  have h0 : (0 : Int) ≤ a := ha.1
  have h1 : a ≤ 18446744073709551615 := ha.2
  refine ⟨(a.toNat, b) :: us, by simp [Int.toNat_of_nonneg h0], fun x hx => ?_⟩
  rcases List.mem_cons.1 hx with rfl | hx
  ·simp only; omega
  ·exact hw x hx
theorem o_z3 {a : Int} (h : (Lit.int .u64 a).wf = true) : ∃ n : Nat, a = n ∧ n < 18446744073709551616 := by
 obtain ⟨ws, e, hw⟩ := o_9a (L := [a]) (by simpa using h)
 rcases ws with _ | ⟨n, _ | ⟨m, ws⟩⟩
 ·simp at e
 ·simp at e; exact ⟨n, e, hw n (by simp)⟩
 ·simp at e
theorem o_z4 {W : World} {v : Value} {s n : Nat} {l : List Value} (h : Cells W v s n l) : v.oneCell' = true := by
 obtain ⟨_, p, cap, rfl, _⟩ := h; rfl
end
end Go.Proofs.YtijbgbpjionfjaaGreatDoor.Am
namespace Go.Proofs.YtijbgbpjionfjaaGreatDoor.Am
section
def exitQ {β : Type} (id N : Nat) (T1 : β → List V) (H1 : β → List (Option Ob)) (R2 : β → Prop) (Q : Exit → List V → List (Option Ob) → Prop) : Exit → List V → List (Option Ob) → Prop
 | .exit j, T, H => if j = id then ∃ b, R2 b ∧ wk N T (T1 b) ∧ wkH N H (H1 b) else Q (.exit j) T H
 | .normal, _, _ => False
 | e, T, H => Q e T H
attribute [simp] exitQ
end
end Go.Proofs.YtijbgbpjionfjaaGreatDoor.Am
namespace Go.Proofs.YtijbgbpjionfjaaGreatDoor.Am
section
open Go.RowKit
def aloneV (l : List ST) : List V := l.flatMap fun s => [.d (.int .i64 s.1), .d (.int .i64 s.2.1), .d (.bool s.2.2)]
@[simp] theorem o_10j (n : Nat) (l : List ST) : V.lowl n (aloneV l) = true := by induction l <;> simp_all [aloneV]

def actsL (l : List (Int × Int)) : List D := l.flatMap fun a => [.int .i64 a.1, .int .i64 a.2]
end
end Go.Proofs.YtijbgbpjionfjaaGreatDoor.Am
namespace Go.Proofs.YtijbgbpjionfjaaGreatDoor.Am
section
open Go.RowKit
theorem o_9b {cs : List Bool} {C k a b key n : Nat} (hg : GoodR k a b) (hC : 1 ≤ C) (hc : cs.length ≤ 4000000) : ∀ (rs : List Rw) (p : Nat) (d : Bool), (∀ r ∈ rs, GoodRow C k a b r) → p ≤ cs.length →
  (updM cs C k a b key n rs p d).p ≤ cs.length ∧ ((updM cs C k a b key n rs p d).e = 0 → (updM cs C k a b key n rs p d).rs.length = rs.length ∧ (∀ r ∈ (updM cs C k a b key n rs p d).rs, GoodRow C k a b r) ∧ (updM cs C k a b key n rs p d).rs.map (fun r => (r.a, r.b)) = rs.map fun r => (r.a, r.b))
 | [], p, d, _, hp => ⟨hp, fun _ => ⟨rfl, by simp [updM], rfl⟩⟩
 | r :: rs, p, d, h, hp => by
  obtain ⟨h1, h2, h3, h4⟩ := h r (by simp)
  have hcol : colOf C r.a r.b key < r.l.length := by rw [h3]; exact Nat.mod_lt _ (by omega)
  have hw := o_u (cs := cs) (n := n) (p := p) (d := d) hg (o_g h4 hcol) hp hc
  have hu : addRM cs k a b n (r.l.getD (colOf C r.a r.b key) (0, 0, false)).1 (r.l.getD (colOf C r.a r.b key) (0, 0, false)).2.1 (r.l.getD (colOf C r.a r.b key) (0, 0, false)).2.2 p d = updR cs C k a b key n r p d := rfl
  rw [hu] at hw
  have ih := o_9b (key := key) (n := n) hg hC hc rs (updR cs C k a b key n r p d).p (updR cs C k a b key n r p d).d (fun x hx => h x (by simp [hx])) hw.1
  rw [updM]
  generalize updM cs C k a b key n rs (updR cs C k a b key n r p d).p (updR cs C k a b key n r p d).d = U at *
  generalize updR cs C k a b key n r p d = Z at *
  unfold updC
  by_cases he : Z.e = 0
  ·rw [if_pos he]
   refine ⟨ih.1, fun h0 => ?_⟩
   obtain ⟨i1, i2, i3⟩ := ih.2 h0
   refine ⟨by simp [i1], fun x hx => ?_, by simp [i3]⟩
   rcases List.mem_cons.1 hx with rfl | hx
   ·exact ⟨h1, h2, by simpa using h3, o_wi h4 _ (hw.2 he)⟩
   ·exact i2 x hx
  ·rw [if_neg he]
   exact ⟨hw.1, fun h0 => absurd h0 he⟩

structure BS where
 rs : List Rw
 T : Nat
 p : Nat
 d : Bool
def bN (z : Int) : Nat := (bits BinOp.and IntKind.i64 z 7).toNat
theorem o_m3 (z : Int) : bits BinOp.and IntKind.i64 z 7 = (bN z : Nat) ∧ bN z ≤ 7 := by
 obtain ⟨n, b1, b2, -⟩ := o_16 z 7 (by omega)
 replace b1 : bits BinOp.and IntKind.i64 z 7 = n := b1
 unfold bN
 rw [b1]; simp; omega
def bstep (cs : List Bool) (C k a b : Nat) (s : BS) (u : Nat × Int) : BS :=
 if (updM cs C k a b (u.1 % hP) (bN u.2) s.rs s.p s.d).e = 0 then ⟨(updM cs C k a b (u.1 % hP) (bN u.2) s.rs s.p s.d).rs, s.T + bN u.2, (updM cs C k a b (u.1 % hP) (bN u.2) s.rs s.p s.d).p, (updM cs C k a b (u.1 % hP) (bN u.2) s.rs s.p s.d).d⟩
 else ⟨s.rs, s.T, (updM cs C k a b (u.1 % hP) (bN u.2) s.rs s.p s.d).p, (updM cs C k a b (u.1 % hP) (bN u.2) s.rs s.p s.d).d⟩
def bldM (cs : List Bool) (C k a b : Nat) (us : List (Nat × Int)) (rs : List Rw) (i : Nat) : BS := (us.take i).foldl (bstep cs C k a b) ⟨rs, 0, 0, false⟩
theorem o_m4 {cs : List Bool} {C k a b : Nat} {us : List (Nat × Int)} {rs : List Rw} {i : Nat} (h : i < us.length) : bldM cs C k a b us rs (i + 1) = bstep cs C k a b (bldM cs C k a b us rs i) us[i] := by
 unfold bldM; rw [o_8u _ _ h, List.foldl_append]; rfl
def BGood (cs : List Bool) (C k a b : Nat) (rs : List Rw) (i : Nat) (s : BS) : Prop := s.rs.length = rs.length ∧ (∀ r ∈ s.rs, GoodRow C k a b r) ∧ (s.rs.map fun r => (r.a, r.b)) = (rs.map fun r => (r.a, r.b)) ∧ s.T ≤ 7 * i ∧ s.p ≤ cs.length
theorem o_z5 {cs : List Bool} {C k a b : Nat} {rs : List Rw} {i : Nat} {s : BS} (hg : GoodR k a b) (hC : 1 ≤ C) (hc : cs.length ≤ 4000000) (h : BGood cs C k a b rs i s) (u : Nat × Int) : BGood cs C k a b rs (i + 1) (bstep cs C k a b s u) := by
 obtain ⟨h1, h2, h3, h4, h5⟩ := h
 have hn := (o_m3 u.2).2
 have hu := o_9b (key := u.1 % hP) (n := bN u.2) hg hC hc s.rs s.p s.d h2 h5
 unfold bstep
 generalize updM cs C k a b (u.1 % hP) (bN u.2) s.rs s.p s.d = U at *
 by_cases he : U.e = 0
 ·rw [if_pos he]
  obtain ⟨i1, i2, i3⟩ := hu.2 he
  exact ⟨i1.trans h1, i2, i3.trans h3, by simp only; omega, hu.1⟩
 ·rw [if_neg he]
  exact ⟨h1, h2, h3, by simp only; omega, hu.1⟩
theorem o_9c {cs : List Bool} {C k a b : Nat} {us : List (Nat × Int)} {rs : List Rw} (hg : GoodR k a b) (hC : 1 ≤ C) (hc : cs.length ≤ 4000000) (hr : ∀ r ∈ rs, GoodRow C k a b r) : ∀ i, i ≤ us.length → BGood cs C k a b rs i (bldM cs C k a b us rs i)
 | 0, _ => ⟨rfl, hr, rfl, by simp [bldM], Nat.zero_le _⟩
 | i + 1, h => by rw [o_m4 h]; exact o_z5 hg hC hc (o_9c hg hC hc hr i (by omega)) _
theorem o_m5 {C k a b : Nat} (hg : GoodR k a b) (x : Nat × Nat) (h : x.1 < hP ∧ x.2 < hP) : GoodRow C k a b (newRow C x) := ⟨h.1, h.2, by simp [newRow], o_l0 hg C⟩

set_option maxHeartbeats 2000000 in
theorem o_z6 (r c k a b : Int) (ws : List Nat) (us : List (Nat × Int)) (cs : List Bool) (hws : ws.length ≤ 9223372036854775807) (hus : us.length ≤ 9223372036854775807) (hkey : ∀ u ∈ us, u.1 < 18446744073709551616) (hc : cs.length ≤ 4000000) {R C K A B : Nat} (hgp : GoodP R C K A B) (hR0 : (R : Int) = 1 + bits BinOp.and IntKind.i64 r 3) (hpar : Eqn Tryz.prog o_5z [.d (drD r c k a b ws)] [] (.d (cpD R C K A B)) []) (S : BS) (hS : S = bldM cs C K A B us ((drawH ws R).map (newRow C)) (min 12 us.length)) :
  Eqn Tryz.prog o_bg [.d (drD r c k a b ws), .d (.sl us.length (updD us)), .p 0 0] [tapeO cs 0 false] (.p 1 0) [tapeO cs S.p S.d, skO R C K A B S.rs S.T] := by
 refine Eqn.gen [0, 3] o_ok (by simp) (by simp) (by rfl) (by decide) (by simp) (by simp [skO, skD, tapeO]) ?_
 have hhs := o_ys r c k a b ws hws R hR0 hgp.1 hgp.2.1
 have hlt := o_m0 ws hgp.2.1
 have hlen : (drawH ws R).length = R := by simp [drawH]
 have hwith := o_l3 hgp (drawH ws R) hlen hlt
 obtain ⟨hr1, hr4, hC1, hC64, hg⟩ := hgp
 have hul : (updD us).length = us.length * 2 := o_1a (fun x => by simp) us
 have hug : ∀ i (h : i < us.length), ((updD us).drop (i * 2)).take 2 = [.int .u64 us[i].1, .int .i64 us[i].2] := o_4y (f := fun u : Nat × Int => [D.int .u64 u.1, D.int .i64 u.2]) (fun x => by simp) us
 have hgd : ∀ r ∈ (drawH ws R).map (newRow C), GoodRow C K A B r := by
  intro x hx
  obtain ⟨y, hy, rfl⟩ := List.mem_map.1 hx
  exact o_m5 hg y (hlt y hy)
 have hl0 : ((drawH ws R).map (newRow C)).length = R := by simp [hlen]
 generalize (drawH ws R).map (newRow C) = rs0 at *
 have hbg := fun i hi => o_9c (us := us) hg hC1 hc hgd i hi
 have hhl : (hashesD (drawH ws R)).length = R * 2 := by
  have := o_1a (f := fun h : Nat × Nat => [D.int .u64 h.1, D.int .u64 h.2]) (n := 2) (fun x => by simp) (drawH ws R)
  rw [hlen] at this; exact this
 generalize hashesD (drawH ws R) = HD at *
 have hht : HD.take (R * 2) = HD := List.take_of_length_le (by omega)
 simp only [o_bh, drD, cpD, skO, skD, List.map_cons, List.map_nil, hl0] at hpar hhs hwith ⊢
 rw [← hht] at hwith
 generalize hWD : (ws.map fun x : Nat => D.int .u64 x) = WD at *
 generalize hUD : updD us = UD at *
 refine A01 hpar ?_; try with_reducible exact tt
 refine CallS.g [] (hhs) (R0 ?_); try with_reducible exact tt
 refine CallS.gf 2 2 ⟨62, HD.map V.d⟩ HD [] (hwith) (R0 ?_); try with_reducible exact tt
 refine A00 ?_; try with_reducible exact tt
 refine AW.loopT (α := Nat) 4 (fun i => [(9, .d (.int .i64 (i : Nat)))]) (fun i => [(0, tapeO cs (bldM cs C K A B us rs0 i).p (bldM cs C K A B us rs0 i).d), (3, ⟨106, [.d (.int .i64 R), .d (.int .i64 C), .d (.int .i64 K), .d (.int .i64 A), .d (.int .i64 B), .d (.sl R (rowsD K A B (bldM cs C K A B us rs0 i).rs)), .d (.int .i64 (bldM cs C K A B us rs0 i).T)]⟩)]) (fun i => i ≤ us.length ∧ i ≤ 12) (fun i => us.length - i) 0 ?_ ?_ ⟨Nat.zero_le _, by omega⟩ ?_ ?_ ?_
 ·simp
 ·simp
 ·simp
 ·simp [bldM]
 rintro i ⟨hi, hi12⟩
 simp
 by_cases h30 : i < us.length ∧ i < 12
 ·obtain ⟨h1, h2⟩ := h30
  have h1' : (i : Int) < us.length := by omega
  have h2' : (i : Int) < 12 := by omega
  have hug1 := hug i h1
  have hub : i * 2 + 2 ≤ us.length * 2 := by omega
  have hky := hkey _ (List.getElem_mem h1)
  have hnx := o_m4 (cs := cs) (C := C) (k := K) (a := A) (b := B) (rs := rs0) h1
  obtain ⟨g1, g2, g3, g4, g5⟩ := hbg i (by omega)
  have huk := o_z1 us[i].1 us[i].2 hky
  obtain ⟨bn1, bn2⟩ := o_m3 us[i].2
  have hup := o_yz (R := R) (T := (bldM cs C K A B us rs0 i).T) hg hC1 hC64 (bldM cs C K A B us rs0 i).rs (g1.trans hl0) hr1 hr4 g2 cs (us[i].1 % hP) (bN us[i].2) (bldM cs C K A B us rs0 i).p (bldM cs C K A B us rs0 i).d (Nat.mod_lt _ (by decide)) (by omega) (by omega) g5 hc _ rfl
  have hul' := o_9b (key := us[i].1 % hP) (n := bN us[i].2) hg hC1 hc (bldM cs C K A B us rs0 i).rs (bldM cs C K A B us rs0 i).p (bldM cs C K A B us rs0 i).d g2 g5
  unfold bstep at hnx
  have ew : IntKind.i64.wrap ((i : Int) + 1) = ((i + 1 : Nat) : Int) := by rw [w64 (by omega) (by omega)]; omega
  replace g1 := g1.trans hl0
  clear g2 g3 g4 g5 hbg hgd
  generalize bldM cs C K A B us rs0 i = B0 at *
  generalize us[i].1 % hP = key at *
  generalize hbn : bN us[i].2 = n at *
  generalize updM cs C K A B key n B0.rs B0.p B0.d = U at *
  generalize us[i] = u at *
  obtain ⟨k1, n0⟩ := u
  obtain ⟨hu1, hu2, hu3, hu4⟩ := seg2 hug1
  simp only at hug1 hu1 hu2 hu3 hu4 huk bn1 hbn
  by_cases hue : U.e = 0
  ·rw [if_pos hue] at hnx
   obtain ⟨ul, -, -⟩ := hul'.2 hue
   simp only [if_pos hue, skO, skD, List.map_cons, List.map_nil, g1, ul.trans g1] at hup
   refine A11 (fs h1 (fs h1' (fs h2 (fs h2' (fs hug1 (fs hu1 (fs hu2 (fs hu3 (fs hu4 (fs hub (fs hul bn1))))))))))) huk ?_; try with_reducible exact tt
   refine CallS.g [3, 0] (hup) (R1 (fs hug1 (fs hub hul)) ?_); try with_reducible exact tt
   refine A10 ew ?_; try with_reducible exact tt
   exact ⟨i + 1, ⟨by omega, by omega⟩, by omega, Sub1.int (by omega), Subs.of (by simp [hnx]), Subs.of (by simp [hnx])⟩
  ·rw [if_neg hue] at hnx
   simp only [if_neg hue, skO, skD, List.map_cons, List.map_nil, g1] at hup
   refine A11 (fs h1 (fs h1' (fs h2 (fs h2' (fs hug1 (fs hu1 (fs hu2 (fs hu3 (fs hu4 (fs hub (fs hul bn1))))))))))) huk ?_; try with_reducible exact tt
   refine CallS.g [3, 0] (hup) (R1 (fs hug1 (fs hub hul)) ?_); try with_reducible exact tt
   refine A10 ew ?_; try with_reducible exact tt
   exact ⟨i + 1, ⟨by omega, by omega⟩, by omega, Sub1.int (by omega), Subs.of (by simp [hnx]), Subs.of (by simp [hnx])⟩
 ·have hz : ¬ ((i : Int) < us.length ∧ (i : Int) < 12) := by omega
  have hmi : min 12 us.length = i := by omega
  rw [hmi] at hS
  rw [← hS]
  have hSl : S.rs.length = R := by rw [hS]; exact (hbg i (by omega)).1.trans hl0
  rw [hSl]
  by_cases h1 : (i : Int) < us.length
  ·have h2 : ¬ (i : Int) < 12 := fun h => hz ⟨h1, h⟩
   have h1n : i < us.length := by omega
   have h2n : ¬ i < 12 := by omega
   refine A10 (fs h1 (fs h2 (fs h1n h2n))) ?_; try with_reducible exact tt
  ·have h1n : ¬ i < us.length := by omega
   refine A10 (fs h1 h1n) ?_; try with_reducible exact tt
end
end Go.Proofs.YtijbgbpjionfjaaGreatDoor.Am
namespace Go.Proofs.YtijbgbpjionfjaaGreatDoor.Am
section
open Go.RowKit
def OvRow (C key came total : Nat) (r : Rw) : Prop := r.a < hP ∧ r.b < hP ∧ r.l.length = C ∧ ∀ j, j < C → ∃ y : Nat, r.l.getD j (0, 0, false) = (y, 0, false) ∧ y ≤ total ∧ (j = colOf C r.a r.b key → came ≤ y) ∧ (C = 1 → y = total)
theorem OvRow.good {C key came total : Nat} {r : Rw} (h : OvRow C key came total r) (ht : total ≤ 256) : GoodRow C 2 8 10 r := by
 obtain ⟨h1, h2, h3, h4⟩ := h
 refine ⟨h1, h2, h3, fun s hs => ?_⟩
 obtain ⟨j, hj, rfl⟩ := List.getElem_of_mem hs
 obtain ⟨y, e, hy, -⟩ := h4 j (by omega)
 rw [List.getD_eq_getElem?_getD, List.getElem?_eq_getElem hj] at e
 simp only [Option.getD_some] at e
 rw [e]
 exact .inr ⟨by omega, rfl, by simp only; omega, by simp⟩
theorem o_m6 (n : Nat) (h : n < 100) : Eqn Tryz.prog o_62 [.d (rD ((n : Nat) : Rat))] [] (.d (.str (smallS n))) [] := by
 refine Eqn.pure o_ol Plain.ok ?_
 have h1 := o_j9 n h
 have hz := o_o 0
 have e : rD ((n : Nat) : Rat) = .agg [natW n, .bool false, natW 0] := by
  unfold rD
  rw [Rat.num_natCast, Rat.den_natCast, Int.natAbs_natCast]
  congr 4
 rw [e]
 simp only [o_bi]
 have hwh : Eqn Tryz.prog o_cm [.d (.agg [natW n, .bool false, natW 0])] [] (.d (.bool true)) [] := by
  refine Eqn.pure o_p7 Plain.ok ?_
  simp only [o_cn]
  refine A01 hz ?_; try with_reducible exact tt
 refine A02 hwh h1 ?_; try with_reducible exact tt
set_option maxHeartbeats 1000000 in
theorem o_z7 : Eqn Tryz.prog o_az [] [] (.d (.bool true)) [] := by
 refine Eqn.pure o_ob Plain.ok ?_
 have hg : GoodR 2 3 4 := .inr ⟨by omega, .inr (.inl ⟨rfl, by omega⟩), by omega, by omega⟩
 have hP1 : GoodP 1 1 2 3 4 := ⟨by omega, by omega, by omega, by omega, hg⟩
 have hw := o_l3 hP1 [(1, 0)] rfl (by simp [hP])
 have hc : ∀ key, colOf 1 1 0 key = 0 := fun key => Nat.mod_one _
 have hr0 : GoodRow 1 2 3 4 ⟨1, 0, [(0, 0, false)]⟩ := ⟨by decide, by decide, rfl, o_l0 hg 1⟩
 have hr1 : GoodRow 1 2 3 4 ⟨1, 0, [(3, 0, false)]⟩ := ⟨by decide, by decide, rfl, by intro s hs; simp at hs; subst hs; exact .inr ⟨by omega, rfl, by simp, by simp⟩⟩
 have hr2 : GoodRow 1 2 3 4 ⟨1, 0, [(5, 0, false)]⟩ := ⟨by decide, by decide, rfl, by intro s hs; simp at hs; subst hs; exact .inr ⟨by omega, rfl, by simp, by simp⟩⟩
 have hu1 := o_8v (T := 0) hg (by omega) (by omega) 1 0 [(0, 0, false)] hr0 [] 5 3 0 false (by decide) (by omega) (by omega) (Nat.le_refl _) (by simp) ⟨0, 3, 0, false, 0, false⟩ (by rw [hc]; kernel_rfl)
 have hu2 := o_8v (T := 3) hg (by omega) (by omega) 1 0 [(3, 0, false)] hr1 [] 9 2 0 false (by decide) (by omega) (by omega) (Nat.le_refl _) (by simp) ⟨0, 5, 0, false, 0, false⟩ (by rw [hc]; kernel_rfl)
 have hq := o_lz (R := 1) (C := 1) (T := 5) hg [⟨1, 0, [(5, 0, false)]⟩] (by omega) (by omega) (by simp) (by simp) (by intro r hr; simp at hr; subst hr; exact hr2) 77 (by decide)
 have hqv : leastQ (valsOf 1 2 3 4 77 [⟨1, 0, [(5, 0, false)]⟩]) 1 = ((5 : Nat) : Rat) := by
  simp only [leastQ, true_or, if_true, valsOf, valAt, List.getElem?_cons_zero, hc]
  rfl
 rw [show ([⟨1, 0, [(5, 0, false)]⟩] : List Rw).length = 1 from rfl, hqv] at hq
 have htx := o_j9 5 (by omega)
 have hnw : Eqn Tryz.prog o_3k [.d .nilsl] [] (.p 0 0) [tapeO [] 0 false] := by
  have := o_jv [] (by simp)
  exact this.sub (Subs.cons Sub1.nil (Subs.refl _))
 have htot := o_z0 (R := 1) (C := 1) (k := 2) (a := 3) (b := 4) (T := 5) [⟨1, 0, [(5, 0, false)]⟩]
 rw [show ([(1, 0)] : List (Nat × Nat)).map (newRow 1) = [⟨1, 0, [(0, 0, false)]⟩] from rfl] at hw
 simp only [o_b0, cpD, hashesD, skO, skD, rowsD, rowD, List.map_cons, List.map_nil, List.flatMap_cons, List.flatMap_nil, List.append_nil, List.length_cons, List.length_nil, if_true, List.set_cons_zero, hc] at hw hu1 hu2 hq htot ⊢
 have hrt := o_m6 5 (by omega)
 generalize arrD 2 3 4 [(0, 0, false)] = AD0 at *
 generalize arrD 2 3 4 [(3, 0, false)] = AD3 at *
 generalize arrD 2 3 4 [(5, 0, false)] = AD5 at *
 generalize ((5 : Nat) : Rat) = q5 at *
 simp only [rD] at hq hrt
 refine G0 ?_; try with_reducible exact tt
 refine CallS.gf 0 2 ⟨62, [.d (.int .u64 (1 : Nat)), .d (.int .u64 (0 : Nat))]⟩ [.int .u64 (1 : Nat), .int .u64 (0 : Nat)] [] (hw) (R0 ?_); try with_reducible exact tt
 refine CallS.n1 (hnw) (R0 ?_); try with_reducible exact tt
 refine CallS.g [1, 2] (hu1) (R0 ?_); try with_reducible exact tt
 refine CallS.n1 (hnw) (R0 ?_); try with_reducible exact tt
 refine CallS.g [1, 3] (hu2) (R0 ?_); try with_reducible exact tt
 refine A00 ?_; try with_reducible exact tt
 refine CallS.g [1] (hq) (R0 ?_); try with_reducible exact tt
 have hs5 : (smallS 5).toList = [53] := by kernel_rfl
 refine A11 hs5 hrt ?_; try with_reducible exact tt
 refine CallS.g [1] (htot) (R0 ?_); try with_reducible exact tt
end
end Go.Proofs.YtijbgbpjionfjaaGreatDoor.Am
namespace Go.Proofs.YtijbgbpjionfjaaGreatDoor.Am
section
def dval : List Nat → Nat
 | [] => 0
 | x :: l => x + 10000 * dval l
def dsmall (ws : List Nat) : Prop := ∀ x ∈ ws, x < 10000

theorem o_33 : ∀ (a b : List Nat), dval (a ++ b) = dval a + 10000 ^ a.length * dval b := by
 intro a
 induction a with
 | nil => intro b; simp [dval]
 | cons x a ih => intro b; simp only [List.cons_append, dval, List.length_cons]; rw [ih, Nat.pow_succ, Nat.mul_add, ← Nat.mul_assoc, Nat.mul_comm 10000 (10000 ^ a.length)]; omega
theorem o_z8 : ∀ n, dval (List.replicate n 0) = 0 := by
 intro n
 induction n with
 | zero => rfl
 | succ n ih => rw [List.replicate_succ, dval, ih]
theorem o_m7 : ∀ {ws : List Nat}, dsmall ws → dval ws < 10000 ^ ws.length := by
 intro ws
 induction ws with
 | nil => intro _; simp [dval]
 | cons x l ih =>
  intro h
  have h1 := h x (by simp)
  have h2 := ih (fun y hy => h y (by simp [hy]))
  rw [dval, List.length_cons, Nat.pow_succ]
  omega

theorem o_z9 (ws : List Nat) : ∀ n, n ≤ ws.length → dval (ws.take (trimN ws n)) = dval (ws.take n) := by
 intro n
 induction n with
 | zero => intro _; rfl
 | succ n ih =>
  intro h
  unfold trimN
  split
  ·rename_i h0
   rw [ih (by omega), o_1z _ _ (by omega), o_33, h0]
   simp [dval]
  ·rfl
theorem dsmall.take {ws : List Nat} (h : dsmall ws) (n : Nat) : dsmall (ws.take n) := fun x hx => h x (List.mem_of_mem_take hx)

theorem o_m8 {ws : List Nat} (h : dsmall ws) (ht : top1 ws) (h0 : dval ws = 0) : ws = [] := by
 rcases ws.eq_nil_or_concat with rfl | ⟨l, x, rfl⟩
 ·rfl
 ·exfalso
  have := ht l.length (by simp)
  simp at this
  simp [o_33, dval] at h0
  rcases Nat.mul_eq_zero.1 h0.2 with h | h
  ·exact absurd h (Nat.pos_iff_ne_zero.1 (Nat.pow_pos (by decide)))
  ·exact this h

theorem o_m9 : ∀ {a b : List Nat}, dsmall a → dsmall b → top1 a → top1 b → dval a = dval b → a = b := by
 intro a
 induction a with
 | nil => intro b _ hb _ tb h; exact (o_m8 hb tb h.symm).symm
 | cons x a ih =>
  intro b ha hb ta tb h
  cases b with
  | nil => exact absurd (o_m8 ha ta h) (by simp)
  | cons y b =>
   have h1 := ha x (by simp)
   have h2 := hb y (by simp)
   simp only [dval] at h
   have e : x = y := by omega
   subst e
   have e2 : dval a = dval b := by omega
   have e3 : a = b := ih (fun z hz => ha z (by simp [hz])) (fun z hz => hb z (by simp [hz])) (fun k hk => by have := ta (k + 1) (by simp [hk]); simpa using this) (fun k hk => by have := tb (k + 1) (by simp [hk]); simpa using this) e2
   rw [e3]

theorem o_58 : ∀ {ws : List Nat} {m : Nat}, top1 ws → dval ws < 10000 ^ m → ws.length ≤ m := by
 intro ws
 induction ws with
 | nil => intro m _ _; exact Nat.zero_le _
 | cons x l ih =>
  intro m ht h
  cases m with
  | zero =>
   exfalso
   rw [Nat.pow_zero] at h
   rw [dval] at h
   cases l with
   | nil =>
    have := ht 0 rfl
    simp [dval] at this h
    omega
   | cons y l =>
    have hw : dval (y :: l) = 0 := by omega
    have : (y :: l).length ≤ 0 := ih (m := 0) (fun k hk => by have := ht (k + 1) (by simp [hk]); simpa using this) (by rw [hw]; decide)
    simp at this
  | succ m =>
   rw [List.length_cons]
   have : l.length ≤ m := by
    cases l with
    | nil => exact Nat.zero_le _
    | cons y l =>
     refine ih (fun k hk => by have := ht (k + 1) (by simp [hk]); simpa using this) ?_
     rw [dval, Nat.pow_succ] at h
     omega
   omega

theorem o_ma (f : Nat → Nat) (n : Nat) : dval ((List.range (n + 1)).map f) = dval ((List.range n).map f) + 10000 ^ n * f n := by
 rw [List.range_succ, List.map_append, o_33]
 simp [dval]
theorem o_1h (l : List Nat) (n : Nat) : dval (l.take (n + 1)) = dval (l.take n) + 10000 ^ n * l.getD n 0 := by
 by_cases h : n < l.length
 ·rw [o_1z _ _ h, o_33, List.length_take, Nat.min_eq_left (Nat.le_of_lt h)]
  simp [dval]
 ·rw [List.take_of_length_le (by omega), List.take_of_length_le (by omega)]
  simp [List.getD, List.getElem?_eq_none (show l.length ≤ n by omega)]

def carryD (a b : List Nat) : Nat → Nat
 | 0 => 0
 | n + 1 => (a.getD n 0 + b.getD n 0 + carryD a b n) / 10000
def addD (a b : List Nat) (n : Nat) : Nat := (a.getD n 0 + b.getD n 0 + carryD a b n) % 10000

theorem dsmall.getD {l : List Nat} (h : dsmall l) (n : Nat) : l.getD n 0 < 10000 := by
 by_cases hn : n < l.length
 ·rw [List.getD, List.getElem?_eq_getElem hn]; exact h _ (List.getElem_mem hn)
 ·simp [List.getD, List.getElem?_eq_none (show l.length ≤ n by omega)]
theorem o_za {a b : List Nat} (ha : dsmall a) (hb : dsmall b) : ∀ n, carryD a b n ≤ 1 := by
 intro n
 induction n with
 | zero => exact Nat.zero_le _
 | succ n ih =>
  have h1 := ha.getD n
  have h2 := hb.getD n
  simp only [carryD]
  omega
theorem o_zb (a b : List Nat) : ∀ n, dval ((List.range n).map (addD a b)) + 10000 ^ n * carryD a b n = dval (a.take n) + dval (b.take n) := by
 intro n
 induction n with
 | zero => simp [dval, carryD]
 | succ n ih =>
  rw [o_ma, o_1h, o_1h]
  have := Nat.div_add_mod (a.getD n 0 + b.getD n 0 + carryD a b n) 10000
  simp only [addD, carryD]
  rw [Nat.pow_succ]
  generalize 10000 ^ n = P at *
  generalize (a.getD n 0 + b.getD n 0 + carryD a b n) / 10000 = q at *
  generalize (a.getD n 0 + b.getD n 0 + carryD a b n) % 10000 = r at *
  have e : P * (10000 * q + r) = P * a.getD n 0 + P * b.getD n 0 + P * carryD a b n := by rw [this]; simp [Nat.mul_add]
  rw [Nat.mul_add, ← Nat.mul_assoc] at e
  omega

def borrowD (a b : List Nat) : Nat → Nat
 | 0 => 0
 | n + 1 => if a.getD n 0 < b.getD n 0 + borrowD a b n then 1 else 0
def subD (a b : List Nat) (n : Nat) : Nat := (a.getD n 0 + 10000 - b.getD n 0 - borrowD a b n) % 10000
theorem o_mb (a b : List Nat) : ∀ n, borrowD a b n ≤ 1 := by
 intro n
 cases n with
 | zero => exact Nat.zero_le _
 | succ n => simp only [borrowD]; split <;> omega
theorem o_zc {a b : List Nat} (ha : dsmall a) (hb : dsmall b) : ∀ n, dval ((List.range n).map (subD a b)) + dval (b.take n) = dval (a.take n) + 10000 ^ n * borrowD a b n := by
 intro n
 induction n with
 | zero => simp [dval, borrowD]
 | succ n ih =>
  rw [o_ma, o_1h, o_1h]
  have h1 := ha.getD n
  have h2 := hb.getD n
  have h3 := o_mb a b n
  have e : subD a b n + b.getD n 0 + borrowD a b n = a.getD n 0 + 10000 * borrowD a b (n + 1) := by
   simp only [subD, borrowD]
   split <;> omega
  rw [Nat.pow_succ, Nat.mul_assoc]
  generalize 10000 ^ n = P at *
  have e2 : P * subD a b n + P * b.getD n 0 + P * borrowD a b n = P * a.getD n 0 + P * (10000 * borrowD a b (n + 1)) := by rw [← Nat.mul_add, ← Nat.mul_add, e, Nat.mul_add]
  omega
theorem o_9d {f : Nat → Nat} (h : ∀ i, f i < 10000) (n : Nat) : dsmall ((List.range n).map f) := by
 intro x hx
 obtain ⟨i, _, rfl⟩ := List.mem_map.1 hx
 exact h i
theorem o_zd (a b : List Nat) (i : Nat) : addD a b i < 10000 := Nat.mod_lt _ (by decide)
theorem o_mc (a b : List Nat) (i : Nat) : subD a b i < 10000 := Nat.mod_lt _ (by decide)

theorem o_9e {a b : List Nat} (ha : dsmall a) (hb : top1 b) (h : a.length < b.length) : dval a < dval b := by
 refine Nat.lt_of_lt_of_le (o_m7 ha) ?_
 apply Nat.le_of_not_lt
 intro hlt
 have := o_58 hb hlt
 omega
theorem o_59 {l : List Nat} (h : dsmall l) (n : Nat) : dval (l.take n) < 10000 ^ n := by
 have := o_m7 (h.take n)
 rw [List.length_take] at this
 exact Nat.lt_of_lt_of_le this (Nat.pow_le_pow_right (by decide) (Nat.min_le_left _ _))
theorem o_ze {a b : List Nat} (ha : dsmall a) (hb : dsmall b) : ∀ n, cmpN a b n = if dval (a.take n) < dval (b.take n) then -1 else if dval (b.take n) < dval (a.take n) then 1 else 0 := by
 intro n
 induction n with
 | zero => simp [cmpN, dval]
 | succ n ih =>
  rw [o_1h, o_1h]
  have h1 := o_59 ha n
  have h2 := o_59 hb n
  simp only [cmpN]
  generalize 10000 ^ n = P at *
  generalize a.getD n 0 = x at *
  generalize b.getD n 0 = y at *
  by_cases hxy : x < y
  ·rw [if_pos hxy, if_pos]
   have : P * (x + 1) ≤ P * y := Nat.mul_le_mul_left _ hxy
   rw [Nat.mul_add] at this
   omega
  ·rw [if_neg hxy]
   by_cases hyx : y < x
   ·have : P * (y + 1) ≤ P * x := Nat.mul_le_mul_left _ hyx
    rw [Nat.mul_add] at this
    rw [if_pos hyx, if_neg (by omega), if_pos (by omega)]
   ·obtain rfl : x = y := by omega
    rw [if_neg hyx, ih]
    simp only [Nat.add_lt_add_iff_right]

def decsF : Nat → Nat → List Nat
 | 0, _ => []
 | f + 1, n => if n = 0 then [] else (n % 10000) :: decsF f (n / 10000)
def decs (n : Nat) : List Nat := decsF n n

theorem o_34 : ∀ (f n : Nat), n ≤ f → dval (decsF f n) = n ∧ dsmall (decsF f n) ∧ top1 (decsF f n)
 | 0, n, h => by
  obtain rfl : n = 0 := by omega
  exact ⟨rfl, by simp [dsmall, decsF], by intro k hk; simp [decsF] at hk⟩
 | f + 1, n, h => by
  by_cases h0 : n = 0
  ·subst h0
   simp only [decsF, if_true]
   exact ⟨rfl, by simp [dsmall], by intro k hk; simp at hk⟩
  ·obtain ⟨h1, h2, h3⟩ := o_34 f (n / 10000) (by omega)
   simp only [decsF, if_neg h0]
   refine ⟨by simp only [dval, h1]; omega, fun x hx => ?_, fun k hk => ?_⟩
   ·rcases List.mem_cons.1 hx with rfl | hx
    ·omega
    ·exact h2 x hx
   ·cases hl : decsF f (n / 10000) with
    | nil =>
     rw [hl] at h1 hk
     simp [dval] at h1 hk
     subst hk
     simp; omega
    | cons y r =>
     rw [hl] at hk h3
     simp at hk
     subst hk
     have := h3 r.length rfl
     simpa using this
theorem o_e (n : Nat) : dval (decs n) = n := (o_34 n n (Nat.le_refl _)).1
theorem o_k (n : Nat) : dsmall (decs n) := (o_34 n n (Nat.le_refl _)).2.1
theorem o_1c (n : Nat) : top1 (decs n) := (o_34 n n (Nat.le_refl _)).2.2
theorem o_zf {ws : List Nat} (h : dsmall ws) (ht : top1 ws) : decs (dval ws) = ws := o_m9 (o_k _) h (o_1c _) ht (o_e _)
theorem o_md {n : Nat} : decs n = [] ↔ n = 0 := by
 constructor
 ·intro h; have := o_e n; rw [h] at this; exact this.symm
 ·rintro rfl; rfl


def sizeD (n : Nat) : Nat := (decs n).length
end
end Go.Proofs.YtijbgbpjionfjaaGreatDoor.Am
