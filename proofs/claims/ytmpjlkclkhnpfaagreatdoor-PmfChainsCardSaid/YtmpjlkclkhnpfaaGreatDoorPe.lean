/- Parts of the proof: Nat1, Nat2, Nat3, Nat4, Nat5, Nat6, Rat1, Text1, TxtM, YuM, DivM, Nat7, Txt1, TxtN, Txt2, Txt3, Mul1, Div1, Mul2, Rat2, Txt4, Txt5, DivN, Nat8, Nat9, Nat10, Rat3. -/
import Derived.Test.YtmpjlkclkhnpfaaGreatDoorPd
set_option linter.unusedVariables false
set_option linter.unusedSimpArgs false
set_option maxRecDepth 100000
namespace Go.Proofs.YtmpjlkclkhnpfaaGreatDoor.Am
section
open Go.RowKit
def W (ws : List Nat) : D := .sl ws.length (ws.map fun x : Nat => .int .u64 x)

def wordsF : Nat → Nat → List Nat
 | 0, _ => []
 | f + 1, n => if n = 0 then [] else (n % 18446744073709551616) :: wordsF f (n / 18446744073709551616)
def words (n : Nat) : List Nat := wordsF n n

theorem o_ki : ∀ (f n : Nat), n ≤ f → wval (wordsF f n) = n ∧ small (wordsF f n) ∧ top1 (wordsF f n)
 | 0, n, h => by
  obtain rfl : n = 0 := by omega
  exact ⟨rfl, by simp [small, wordsF], by intro k hk; simp [wordsF] at hk⟩
 | f + 1, n, h => by
  by_cases h0 : n = 0
  ·subst h0
   simp only [wordsF, if_true]
   exact ⟨rfl, by simp [small], by intro k hk; simp at hk⟩
  ·obtain ⟨h1, h2, h3⟩ := o_ki f (n / 18446744073709551616) (by omega)
   simp only [wordsF, if_neg h0]
   refine ⟨by simp only [wval, h1]; omega, fun x hx => ?_, fun k hk => ?_⟩
   ·rcases List.mem_cons.1 hx with rfl | hx
    ·omega
    ·exact h2 x hx
   ·cases hl : wordsF f (n / 18446744073709551616) with
    | nil =>
     rw [hl] at h1 hk
     simp [wval] at h1 hk
     subst hk
     simp; omega
    | cons y r =>
     rw [hl] at hk h3
     simp at hk
     subst hk
     have := h3 r.length rfl
     simpa using this
theorem o_kj (n : Nat) : wval (words n) = n := (o_ki n n (Nat.le_refl _)).1
theorem o_kk (n : Nat) : small (words n) := (o_ki n n (Nat.le_refl _)).2.1
theorem o_kl (n : Nat) : top1 (words n) := (o_ki n n (Nat.le_refl _)).2.2
theorem o_km {ws : List Nat} (h : small ws) (ht : top1 ws) : words (wval ws) = ws := o_jt (o_kk _) h (o_kl _) ht (o_kj _)
theorem o_kn {n : Nat} : words n = [] ↔ n = 0 := by
 constructor
 ·intro h; have := o_kj n; rw [h] at this; exact this.symm
 ·rintro rfl; rfl

def natW (n : Nat) : D := W (words n)
theorem o_ko {ws : List Nat} (h : small ws) (ht : top1 ws) : natW (wval ws) = W ws := by rw [natW, o_km h ht]
theorem o_kp : natW 0 = .sl 0 [] := rfl
def size (n : Nat) : Nat := (words n).length

theorem o_kq (n : Nat) (l : List D) (hl : l.length = n) (hn : n ≤ 4000000000) : Eqn Tryz.prog o_fm [.d (.sl n l)] [] (.d (.sl n l)) [] := by
 refine Eqn.pure o_fo (o_58 _) ?_
 simp only [o_fn]
 rcases Nat.eq_zero_or_pos n with rfl | h0
 ·have : l = [] := List.eq_nil_of_length_eq_zero hl
  subst this
  refine AW.empty 0 rfl ?_ ?_
  ·simp
   refine G0 ?_; try with_reducible exact tt
   refine AW.cond rfl (fun h => ?_) (fun h => ?_)
   ·refine G0 ?_; try with_reducible exact tt
    exact Sub1.nil
   ·simp at h
  ·simp
   refine G0 ?_; try with_reducible exact tt
   refine AW.cond rfl (fun h => ?_) (fun h => ?_)
   ·simp at h
   ·refine G0 ?_; try with_reducible exact tt
    exact Sub1.sl0
 ·refine G1 h0 ?_; try with_reducible exact tt
  refine AW.cond rfl (fun h => ?_) (fun h => ?_)
  ·simp at h
  ·refine G0 ?_; try with_reducible exact tt
   have h1 : ¬ n = 0 := by omega
   simp [h1, hl]
   refine need.of (by omega) ?_
   refine AW.freeze 0 1 ⟨194, l.map .d⟩ l (by simp) rfl ?_
   simp
   refine G0 ?_; try with_reducible exact tt
   have : l.take n = l := List.take_of_length_le (by omega)
   simp [this]

theorem o_kr {ws : List Nat} {k : Nat} (h : k < ws.length) : ws[k] = ws.getD k 0 := by simp [List.getD, h]

theorem o_ks (ws : List Nat) (hs : small ws) (hn : ws.length ≤ 4000000000) : Eqn Tryz.prog o_cl [.d (W ws)] [] (.d (.agg [natW (wval ws)])) [] := by
 refine Eqn.pure o_cn (o_58 _) ?_
 simp only [o_cm, W]
 refine G0 ?_; try with_reducible exact tt
 refine AW.loopT (α := Nat) 1 (fun m => [(3, .d (.int .i64 (m : Int)))]) (fun _ => []) (fun m => m ≤ ws.length ∧ trimN ws m = trimN ws ws.length) (fun m => m) ws.length ?_ ?_ ⟨Nat.le_refl _, rfl⟩ ?_ ?_ ?_
 ·simp
 ·simp
 ·simp
 ·simp
 rintro m ⟨hm, ht⟩
 simp
 have fin : ∀ k, k = trimN ws ws.length → W (ws.take k) = natW (wval ws) := by
  rintro k rfl
  have := o_ko (hs.take (trimN ws ws.length)) (o_jr ws _ (Nat.le_refl _))
  rw [← this, o_jq _ _ (Nat.le_refl _), List.take_length]
 cases m with
 | zero =>
  refine G0 ?_; try with_reducible exact tt
  refine AW.cond rfl (fun h => ?_) (fun h => ?_)
  ·simp at h
  refine G0 ?_; try with_reducible exact tt
  refine Sub1.of ?_
  rw [← fin 0 ht]
  simp [W]
 | succ m =>
  have hm' : m < ws.length := hm
  have hp : (0 : Int) < (m : Int) + 1 := by omega
  have e : (m : Int) + 1 - 1 = m := by omega
  have ew : IntKind.i64.wrap (m : Int) = m := w64 (by omega) (by omega)
  refine G1 (fs hp (fs e (fs ew hm'))) ?_; try with_reducible exact tt
  refine AW.cond rfl (fun h => ?_) (fun h => ?_)
  ·simp at h
   refine G1 (fs hp (fs e ew)) ?_; try with_reducible exact tt
   refine ⟨m, ⟨by omega, ?_⟩, ?_⟩
   ·rw [← ht, trimN, if_pos]
    rw [← o_kr hm']; omega
   ·simp
  ·simp at h
   refine G0 ?_; try with_reducible exact tt
   have hk : m + 1 = trimN ws ws.length := by
    rw [← ht, trimN, if_neg]
    rw [← o_kr hm']; omega
   refine G0 ?_; try with_reducible exact tt
   refine Sub1.of ?_
   rw [← fin _ hk]
   simp [W]
   omega

theorem o_kt (ws : List Nat) (hs : small ws) (hn : ws.length ≤ 4000000000) : Eqn Tryz.prog o_cf [.d (W ws)] [] (.d (.agg [natW (wval ws)])) [] := by
 refine Eqn.pure o_ch (o_58 _) ?_
 simp only [o_cg, W]
 refine G0 ?_; try with_reducible exact tt
 refine CallS.pu (o_kq _ (ws.map fun x : Nat => .int .u64 x) (by simp) hn) (R0 ?_); try with_reducible exact tt
 refine CallS.pu (o_ks ws hs hn) (R0 ?_); try with_reducible exact tt

theorem o_ku (n : Nat) : Eqn Tryz.prog o_c9 [.d (.agg [natW n])] [] (.d (.bool (n == 0))) [] := by
 refine Eqn.pure o_cb (o_58 _) ?_
 simp only [o_ca, natW, W]
 refine G0 ?_; try with_reducible exact tt
 refine Sub1.bool ?_
 rw [Bool.eq_iff_iff]
 simp [o_kn]

theorem o_kv {m n : Nat} (h : size m < size n) : m < n := by
 have := o_kf (o_kk m) (o_kl n) h
 rwa [o_kj, o_kj] at this

theorem o_kw (m n : Nat) (hm : size m ≤ 1000000) (hn : size n ≤ 1000000) : Eqn Tryz.prog o_cu [.d (.agg [natW m]), .d (.agg [natW n])] [] (.d (.int .i64 (cmpZ m n))) [] := by
 refine Eqn.pure o_cw (o_58 _) ?_
 unfold size at hm hn
 have sa := o_kk m
 have sb := o_kk n
 simp only [o_cv, natW, W]
 have hz : cmpZ m n = if (words m).length < (words n).length then -1 else if (words n).length < (words m).length then 1 else cmpN (words m) (words n) (words m).length := by
  split
  ·rename_i h; rw [cmpZ, if_pos (o_kv h)]
  ·split
   ·rename_i h; have := o_kv h; rw [cmpZ, if_neg (by omega), if_pos this]
   ·have := o_kh sa sb (words m).length
    rw [List.take_length, show (words m).length = (words n).length by omega, List.take_length, o_kj, o_kj] at this
    rw [show (words m).length = (words n).length by omega, this]
    rfl
 rw [hz]
 clear hz
 generalize words m = xs at *
 generalize words n = ys at *
 by_cases hl : xs.length = ys.length
 ·refine G1 hl ?_; try with_reducible exact tt
  refine AW.cond rfl (fun h => ?_) (fun h => ?_)
  ·simp [w64] at h
  refine G1 hl ?_; try with_reducible exact tt
  refine AW.loopT (α := Nat) 2 (fun m => [(6, .d (.int .i64 ((m : Int) - 1)))]) (fun _ => []) (fun m => m ≤ ys.length ∧ cmpN xs ys m = cmpN xs ys ys.length) (fun m => m) ys.length ?_ ?_ ⟨Nat.le_refl _, rfl⟩ ?_ ?_ ?_
  ·simp
  ·simp
  ·simp [hl]
  ·simp
  rintro m ⟨hm', hc⟩
  simp
  cases m with
  | zero =>
   refine G0 ?_; try with_reducible exact tt
   refine AW.cond rfl (fun h => ?_) (fun h => ?_)
   ·simp at h
   refine G0 ?_; try with_reducible exact tt
   refine Sub1.int ?_
   rw [← hc]; rfl
  | succ m =>
   have h1 : m < xs.length := by omega
   have h2 : m < ys.length := hm'
   have e : (m : Int) + 1 - 1 = m := by omega
   have ew : IntKind.i64.wrap ((m : Int) - 1) = (m : Int) - 1 := w64 (by omega) (by omega)
   rw [cmpN, ← o_kr h1, ← o_kr h2] at hc
   refine G1 (fs e (fs h1 h2)) ?_; try with_reducible exact tt
   refine AW.cond rfl (fun h => ?_) (fun h => ?_)
   ·refine G1 (fs e (fs h1 h2)) ?_; try with_reducible exact tt
    refine AW.cond rfl (fun h => ?_) (fun h => ?_)
    ·simp at h
     refine G0 ?_; try with_reducible exact tt
     refine Sub1.int ?_
     rw [if_pos h] at hc
     exact hc
    ·simp at h
     rw [if_neg (by omega)] at hc
     refine G0 ?_; try with_reducible exact tt
     refine AW.cond rfl (fun h => ?_) (fun h => ?_)
     ·simp at h
      refine G0 ?_; try with_reducible exact tt
      refine Sub1.int ?_
      rw [if_pos h] at hc
      exact hc
     ·simp at h
      rw [if_neg (by omega)] at hc
      refine G1 ew ?_; try with_reducible exact tt
      exact ⟨m, ⟨by omega, hc⟩, by simp⟩
   ·simp at h
 ·refine G0 ?_; try with_reducible exact tt
  refine AW.cond rfl (fun h => ?_) (fun h => ?_)
  ·refine G0 ?_; try with_reducible exact tt
   refine Sub1.int ?_
   split <;> omega
  ·simp at h
   omega
end
section
open Go.RowKit
abbrev U (ws : List Nat) : List V := ws.map fun x : Nat => V.d (.int .u64 x)

theorem o_kx (x y c s d : Nat) (hx : x < 18446744073709551616) (hy : y < 18446744073709551616) (hc : c ≤ 1) (hs : s < 18446744073709551616) (e : x + y + c = s + 18446744073709551616 * d) : Eqn Tryz.prog o_ji [.d (.int .u64 x), .d (.int .u64 y), .d (.int .u64 c)] [] (.tup [.d (.int .u64 s), .d (.int .u64 d)]) [] := by
 refine Eqn.extern o_jj (by kernel_rfl) (by kernel_rfl) (by kernel_rfl) (e := add64Entry) (by kernel_rfl) rfl fun m vs h => ?_
 obtain ⟨v1, r1, rfl, h1, h⟩ := V.reps_cons'.1 h
 obtain ⟨v2, r2, rfl, h2, h⟩ := V.reps_cons'.1 h
 obtain ⟨v3, r3, rfl, h3, h⟩ := V.reps_cons'.1 h
 simp at h; subst h
 rw [V.rep_int] at h1 h2 h3
 subst h1 h2 h3
 have := run_add64 (P := Tryz.prog) x y c (by omega) (by omega) (by omega) (by omega) m.w
 refine ⟨_, this, ?_⟩
 unfold V.rep
 refine ⟨[.int .u64 (((x : Int) + y + c) % 18446744073709551616), .int .u64 (((x : Int) + y + c) / 18446744073709551616)], rfl, ?_⟩
 simp only [V.reps_cons, V.rep_int, V.reps_nil, and_true]
 constructor <;> congr 1 <;> omega

theorem o_ky (x y c s d : Nat) (hx : x < 18446744073709551616) (hy : y < 18446744073709551616) (hc : c ≤ 1) (hs : s < 18446744073709551616) (e : x + 18446744073709551616 * d = s + y + c) : Eqn Tryz.prog o_jk [.d (.int .u64 x), .d (.int .u64 y), .d (.int .u64 c)] [] (.tup [.d (.int .u64 s), .d (.int .u64 d)]) [] := by
 refine Eqn.extern o_jl (by kernel_rfl) (by kernel_rfl) (by kernel_rfl) (e := sub64Entry) (by kernel_rfl) rfl fun m vs h => ?_
 obtain ⟨v1, r1, rfl, h1, h⟩ := V.reps_cons'.1 h
 obtain ⟨v2, r2, rfl, h2, h⟩ := V.reps_cons'.1 h
 obtain ⟨v3, r3, rfl, h3, h⟩ := V.reps_cons'.1 h
 simp at h; subst h
 rw [V.rep_int] at h1 h2 h3
 subst h1 h2 h3
 have := run_sub64 (P := Tryz.prog) x y c hc m.w
 refine ⟨_, this, ?_⟩
 unfold V.rep
 refine ⟨[.int .u64 s, .int .u64 d], ?_, by simp only [V.reps_cons, V.rep_int, V.reps_nil, and_true]⟩
 congr 4
 ·omega
 ·congr 2
  split <;> omega

theorem o_kz (a b : List Nat) (i : Nat) : a.getD i 0 + b.getD i 0 + carryW a b i = addW a b i + 18446744073709551616 * carryW a b (i + 1) := by
 rw [addW, carryW]; exact (Nat.mod_add_div _ _).symm
theorem o_l0 {ws : List Nat} {k : Nat} (h : ¬ k < ws.length) : ws.getD k 0 = 0 := by simp [List.getD, show ws.length ≤ k by omega]
theorem o_l1 (l : List D) : (V.tup (l.map .d)).plain := by
 have h1 : V.lowl 0 (l.map V.d) = true := by induction l <;> simp_all [V.lowl, V.low]
 have h2 : ∀ θ, V.rens θ (l.map V.d) = l.map V.d := fun θ => by induction l <;> simp_all [V.rens, V.ren]
 exact ⟨by simp [V.low, h1], fun θ => by simp [V.ren, h2]⟩

def rowV (f : Nat → D) (n i : Nat) : List V := (List.range i).map (fun k => V.d (f k)) ++ List.replicate (n - i) (.d (.int .u64 0))
@[simp] theorem o_l2 (f : Nat → D) (n i : Nat) : (rowV f n i).length = i + (n - i) := by simp [rowV]
theorem out0 (n : Nat) (f : Nat → D) : List.replicate n (V.d (.int .u64 0)) = rowV f n 0 := by simp [rowV]
theorem o_l3 {f : Nat → D} {n i : Nat} (h : i < n) : (rowV f n i).set i (.d (f i)) = rowV f n (i + 1) := by
 obtain ⟨k, rfl⟩ : ∃ k, n = i + k + 1 := ⟨n - i - 1, by omega⟩
 rw [rowV, rowV, List.set_append_right _ _ (by simp), List.range_succ, List.map_append, List.append_assoc]
 congr 1
 simp only [List.length_map, List.length_range, Nat.sub_self]
 rw [show i + k + 1 - i = k + 1 by omega, show i + k + 1 - (i + 1) = k by omega]
 simp [List.replicate_succ]
@[simp] theorem o_l4 (n : Nat) (f : Nat → D) (k i : Nat) : V.lowl n (rowV f k i) = true := by
 have h1 : ∀ l : List D, V.lowl n (l.map V.d) = true := fun l => by induction l <;> simp_all [V.lowl, V.low]
 have : rowV f k i = ((List.range i).map f ++ List.replicate (k - i) (D.int .u64 0)).map .d := by simp [rowV]
 rw [this, h1]
@[simp] theorem o_l5 (l : List V) : Subs l l ↔ True := iff_true_intro (Subs.refl l)
theorem o_l6 {f : Nat → D} {n : Nat} {z : D} : (rowV f (n + 1) n).set n (.d z) = ((List.range n).map f ++ [z]).map .d := by
 rw [rowV, List.set_append_right _ _ (by simp)]
 simp
theorem o_l7 {f : Nat → D} {n : Nat} : rowV f n n = ((List.range n).map f).map .d := by simp [rowV]

theorem o_l8 (a b : D) : (V.tup [.d a, .d b]).plain := o_l1 [a, b]
theorem o_l9 (a b c : D) : (V.tup [.d a, .d b, .d c]).plain := o_l1 [a, b, c]

theorem o_la (m n : Nat) (hm : size m ≤ 1000000) (hn : size n ≤ 1000000) : Eqn Tryz.prog o_cc [.d (.agg [natW m]), .d (.agg [natW n])] [] (.d (.agg [natW (m + n)])) [] := by
 refine Eqn.pure o_ce (o_58 _) ?_
 -- the longer one, the other one
 obtain ⟨A, B, hAB, hsA, hsB, hle, hsum, hca, hcb⟩ : ∃ A B : List Nat, (A, B) = (if (words m).length < (words n).length then (words n, words m) else (words m, words n)) ∧ small A ∧ small B ∧ B.length ≤ A.length ∧ wval A + wval B = m + n ∧ A.length ≤ 1000000 ∧ B.length ≤ 1000000 := by
  unfold size at hm hn
  by_cases h : (words m).length < (words n).length
  ·exact ⟨words n, words m, by rw [if_pos h], o_kk _, o_kk _, by omega, by rw [o_kj, o_kj]; omega, by omega, by omega⟩
  ·exact ⟨words m, words n, by rw [if_neg h], o_kk _, o_kk _, by omega, by rw [o_kj, o_kj], by omega, by omega⟩
 simp only [o_cd, natW, W]
 generalize words m = xs at *
 generalize words n = ys at *
 unfold size at hm hn
 refine AW.seq (AW.reg mix ?_)
 (simp -implicitDefEqProofs; try simp (disch := omega) only [w64, wu64])
 refine AW.cut 3 [] [(0, ⟨25, [.d (W A)]⟩), (1, ⟨25, [.d (W B)]⟩)] ?_ ?_ ?_ ?_
 ·simp
 ·simp
 ·refine G0 ?_; try with_reducible exact tt
  refine AW.cond rfl (fun h => ?_) (fun h => ?_)
  ·simp at h
   rw [if_pos h] at hAB
   cases hAB
   refine G0 ?_; try with_reducible exact tt
   simp [W]
  ·simp at h
   rw [if_neg (by omega)] at hAB
   cases hAB
   refine G0 ?_; try with_reducible exact tt
   simp [W]
 clear hAB hm hn
 simp [W]
 refine G0 ?_; try with_reducible exact tt

 rw [out0 _ (fun k => .int .u64 (addW A B k : Nat))]
 refine G0 ?_; try with_reducible exact tt
 refine AW.loopT (α := Nat) 4 (fun i => [(27, .d (.int .i64 (i : Int))), (6, .d (.int .u64 (carryW A B i : Nat)))]) (fun i => [(3, ⟨194, rowV (fun k => .int .u64 (addW A B k : Nat)) (A.length + 1) i⟩)]) (fun i => i ≤ A.length) (fun i => A.length - i) 0 ?_ ?_ (Nat.zero_le _) ?_ ?_ ?_
 ·simp
 ·simp
 ·simp [carryW]
 ·simp
 rintro i hi
 simp
 by_cases h : i = A.length
 ·subst h
  refine G0 ?_; try with_reducible exact tt
  refine AW.cond rfl (fun h => ?_) (fun h => ?_)
  ·simp at h
  refine AW.exit ?_
  (try (simp -implicitDefEqProofs; try simp (disch := omega) only [w64, wu64]))
  repeat (first | refine AW.seq ?_ | refine AW.block ?_)
  refine AW.reg mix ?_
  (simp -implicitDefEqProofs; try simp (disch := omega) only [w64, wu64])
  try refine need.of (by first | omega | kernel_rfl) ?_
  obtain ⟨ws, hl, hr, hv, hs⟩ : ∃ ws : List Nat, ws.length = A.length + 1 ∧ (rowV (fun k => .int .u64 (addW A B k : Nat)) (A.length + 1) A.length).set A.length (.d (.int .u64 (carryW A B A.length : Nat))) = U ws ∧ wval ws = m + n ∧ small ws := by
   refine ⟨(List.range A.length).map (addW A B) ++ [carryW A B A.length], by simp, by rw [o_l6]; simp [U], ?_, ?_⟩
   ·rw [o_jm, ← hsum]
    have := o_k9 A B A.length
    rw [List.take_length, List.take_of_length_le hle] at this
    simp [wval]
    rw [← this]
   ·intro x hx
    rcases List.mem_append.1 hx with hx | hx
    ·obtain ⟨k, -, rfl⟩ := List.mem_map.1 hx; exact o_kd _ _ _
    ·simp at hx; subst hx; have := o_k8 hsA hsB A.length; omega
  rw [hr]
  refine AW.freeze 3 1 ⟨194, _⟩ (ws.map fun x : Nat => .int .u64 x) (by rfl) (by simp) ?_
  simp [← hl, List.take_of_length_le]
  refine G0 ?_; try with_reducible exact tt
  refine CallS.pu (o_ks ws hs (by omega)) (R0 ?_); try with_reducible exact tt
  refine Sub1.of ?_
  rw [hv]; rfl
 ·have hi' : i < A.length := by omega
  have hp : (i : Int) < A.length := by omega
  have hc := o_k8 hsA hsB i
  have hset := o_l3 (f := fun k => .int .u64 (addW A B k : Nat)) (n := A.length + 1) (i := i) (by omega)
  have ew : IntKind.i64.wrap ((i : Int) + 1) = (i : Int) + 1 := w64 (by omega) (by omega)
  refine G1 (fs hi' hp) ?_; try with_reducible exact tt
  refine AW.cond rfl (fun h => ?_) (fun h => ?_)
  ·clear h
   by_cases hb : i < B.length
   ·have e : A[i] + B[i] + carryW A B i = addW A B i + 18446744073709551616 * carryW A B (i + 1) := by
     rw [← o_kz, o_kr hi', o_kr hb]
    refine G1 (fs hi' (fs hp hb)) ?_; try with_reducible exact tt
    refine AW.cond rfl (fun h => ?_) (fun h => ?_)
    ·clear h
     refine G1 (fs hi' (fs hp hb)) ?_; try with_reducible exact tt
     refine CallS.pu (o_kx _ _ _ (addW A B i) (carryW A B (i + 1)) (hsA _ (List.getElem_mem _)) (hsB _ (List.getElem_mem _)) hc (o_kd _ _ _) e) (R1 (fs hset ew) ?_); try with_reducible exact tt
     exact ⟨i + 1, by omega, by omega, by simp [wk, ew], by simp [wkH]⟩
    ·simp [hb] at h
   ·have e : A[i] + 0 + carryW A B i = addW A B i + 18446744073709551616 * carryW A B (i + 1) := by
     rw [← o_kz, o_kr hi', o_l0 hb]
    refine G1 (fs hi' (fs hp hb)) ?_; try with_reducible exact tt
    refine AW.cond rfl (fun h => ?_) (fun h => ?_)
    ·simp [hb] at h
    ·clear h
     refine G1 (fs hi' (fs hp hb)) ?_; try with_reducible exact tt
     refine CallS.pu (o_kx _ 0 _ (addW A B i) (carryW A B (i + 1)) (hsA _ (List.getElem_mem _)) (by omega) hc (o_kd _ _ _) e) (R1 (fs hset ew) ?_); try with_reducible exact tt
     exact ⟨i + 1, by omega, by omega, by simp [wk, ew], by simp [wkH]⟩
  ·simp at h
end
section
open Go.RowKit
theorem o_lb {a b : List Nat} (ha : small a) (hb : small b) (i : Nat) : a.getD i 0 + 18446744073709551616 * borrowW a b (i + 1) = subW a b i + b.getD i 0 + borrowW a b i := by
 have h1 := ha.getD i
 have h2 := hb.getD i
 have h3 := o_ka a b i
 simp only [subW, borrowW]
 split <;> omega
theorem o_lc {a b : List Nat} (ha : small a) (hb : small b) (hl : b.length ≤ a.length) (h : wval b ≤ wval a) : wval ((List.range a.length).map (subW a b)) = wval a - wval b := by
 have h1 := o_kb ha hb a.length
 rw [List.take_length, List.take_of_length_le hl] at h1
 have h2 := o_ka a b a.length
 have h3 := o_jo (o_kc (o_ke a b) a.length)
 rw [List.length_map, List.length_range] at h3
 have : borrowW a b a.length = 0 ∨ borrowW a b a.length = 1 := by omega
 rcases this with e | e
 ·rw [e] at h1; omega
 ·rw [e] at h1; omega
theorem o_ld {m n : Nat} (h : m ≤ n) : size m ≤ size n := by
 apply Nat.le_of_not_lt
 intro hlt
 have := o_kv hlt
 omega

theorem o_le (m n : Nat) (hm : size m ≤ 1000000) (hle : n ≤ m) : Eqn Tryz.prog o_d3 [.d (.agg [natW m]), .d (.agg [natW n])] [] (.tup [.d (.agg [natW (m - n)]), .d (.int .i64 0)]) [] := by
 refine Eqn.pure o_d5 (o_l8 _ _) ?_
 have hs := o_ld hle
 simp only [o_d4]
 refine G0 ?_; try with_reducible exact tt
 refine CallS.pu (o_kw m n hm (by omega)) (R0 ?_); try with_reducible exact tt
 have hc : ¬ cmpZ m n < 0 := by unfold cmpZ; split <;> (try split) <;> omega
 refine AW.cond rfl (fun h => ?_) (fun h => ?_)
 ·simp [hc] at h
 clear h
 refine G0 ?_; try with_reducible exact tt
 unfold size at hm hs
 obtain ⟨A, hA⟩ : ∃ A, A = words m := ⟨_, rfl⟩
 obtain ⟨B, hB⟩ : ∃ B, B = words n := ⟨_, rfl⟩
 have hsA : small A := hA ▸ o_kk m
 have hsB : small B := hB ▸ o_kk n
 have hvA : wval A = m := by rw [hA, o_kj]
 have hvB : wval B = n := by rw [hB, o_kj]
 rw [show natW m = .sl A.length (A.map fun x : Nat => .int .u64 x) by rw [hA]; rfl, show natW n = .sl B.length (B.map fun x : Nat => .int .u64 x) by rw [hB]; rfl]
 rw [← hA, ← hB] at hs
 rw [← hA] at hm
 clear hA hB
 refine G0 ?_; try with_reducible exact tt
 rw [out0 _ (fun k => .int .u64 (subW A B k : Nat))]
 refine AW.loopT (α := Nat) 4 (fun i => [(23, .d (.int .i64 (i : Int))), (7, .d (.int .u64 (borrowW A B i : Nat)))]) (fun i => [(3, ⟨194, rowV (fun k => .int .u64 (subW A B k : Nat)) A.length i⟩)]) (fun i => i ≤ A.length) (fun i => A.length - i) 0 ?_ ?_ (Nat.zero_le _) ?_ ?_ ?_
 ·simp
 ·simp
 ·simp [borrowW]
 ·simp
 rintro i hi
 simp
 by_cases h : i = A.length
 ·subst h
  refine G0 ?_; try with_reducible exact tt
  refine AW.cond rfl (fun h => ?_) (fun h => ?_)
  ·simp at h
  refine AW.exit ?_
  (try (simp -implicitDefEqProofs; try simp (disch := omega) only [w64, wu64]))
  obtain ⟨ws, hl, hr, hv, hs'⟩ : ∃ ws : List Nat, ws.length = A.length ∧ rowV (fun k => .int .u64 (subW A B k : Nat)) A.length A.length = U ws ∧ wval ws = m - n ∧ small ws := by
   refine ⟨(List.range A.length).map (subW A B), by simp, by rw [o_l7]; simp [U], ?_, o_kc (o_ke A B) _⟩
   rw [← hvA, ← hvB]
   exact o_lc hsA hsB hs (by omega)
  rw [hr]
  refine AW.freeze 3 1 ⟨194, _⟩ (ws.map fun x : Nat => .int .u64 x) (by rfl) (by simp) ?_
  simp [← hl, List.take_of_length_le]
  refine G0 ?_; try with_reducible exact tt
  refine CallS.pu (o_ks ws hs' (by omega)) (R0 ?_); try with_reducible exact tt
  refine Sub1.of ?_
  rw [hv]
 ·have hi' : i < A.length := by omega
  have hp : (i : Int) < A.length := by omega
  have hc := o_ka A B i
  have hset := o_l3 (f := fun k => .int .u64 (subW A B k : Nat)) (n := A.length) (i := i) (by omega)
  have ew : IntKind.i64.wrap ((i : Int) + 1) = (i : Int) + 1 := w64 (by omega) (by omega)
  have e := o_lb hsA hsB i
  refine G1 (fs hi' hp) ?_; try with_reducible exact tt
  refine AW.cond rfl (fun h => ?_) (fun h => ?_)
  ·clear h
   by_cases hb : i < B.length
   ·rw [← o_kr hi', ← o_kr hb] at e
    refine G1 (fs hi' (fs hp hb)) ?_; try with_reducible exact tt
    refine AW.cond rfl (fun h => ?_) (fun h => ?_)
    ·clear h
     refine G1 (fs hi' (fs hp hb)) ?_; try with_reducible exact tt
     refine CallS.pu (o_ky _ _ _ (subW A B i) (borrowW A B (i + 1)) (hsA _ (List.getElem_mem _)) (hsB _ (List.getElem_mem _)) hc (o_ke _ _ _) e) (R1 (fs hset ew) ?_); try with_reducible exact tt
     exact ⟨i + 1, by omega, by omega, by simp [wk, ew], by simp [wkH]⟩
    ·simp [hb] at h
   ·rw [← o_kr hi', o_l0 hb] at e
    refine G1 (fs hi' (fs hp hb)) ?_; try with_reducible exact tt
    refine AW.cond rfl (fun h => ?_) (fun h => ?_)
    ·simp [hb] at h
    ·clear h
     refine G1 (fs hi' (fs hp hb)) ?_; try with_reducible exact tt
     refine CallS.pu (o_ky _ 0 _ (subW A B i) (borrowW A B (i + 1)) (hsA _ (List.getElem_mem _)) (by omega) hc (o_ke _ _ _) e) (R1 (fs hset ew) ?_); try with_reducible exact tt
     exact ⟨i + 1, by omega, by omega, by simp [wk, ew], by simp [wkH]⟩
  ·simp at h
end
section
open Go.RowKit
def rowM (k : Nat) (A : List Nat) (i : Nat) : List Nat := movedL k 0 (A.take i) ++ List.replicate (A.length - i) 0
theorem o_lf (k : Nat) (A : List Nat) (i : Nat) (h : i ≤ A.length) : (rowM k A i).length = A.length + 1 := by
 rw [rowM, List.length_append, o_ju, List.length_take, List.length_replicate]; omega
theorem o_lg (k : Nat) (A : List Nat) : rowM k A 0 = List.replicate (A.length + 1) 0 := by simp [rowM, movedL, List.replicate_succ]
theorem o_lh (k : Nat) (A : List Nat) : rowM k A A.length = movedL k 0 A := by simp [rowM]
theorem o_li (k : Nat) (A : List Nat) (i : Nat) (h : i < A.length) : (rowM k A i).getD i 0 = movedC k 0 (A.take i) := by
 have e : i = (movedB k 0 (A.take i)).length := by rw [o_jy, List.length_take]; omega
 rw [rowM, o_jx, List.append_assoc, List.getD, List.getElem?_append_right (by omega), show i - (movedB k 0 (A.take i)).length = 0 by omega]
 rfl
theorem o_lj (k : Nat) (A : List Nat) (i : Nat) (h : i < A.length) : ((rowM k A i).set i (A.getD i 0 * 2 ^ k % 18446744073709551616 + movedC k 0 (A.take i))).set (i + 1) (A.getD i 0 * 2 ^ k / 18446744073709551616) = rowM k A (i + 1) := by
 have e : (movedB k 0 (A.take i)).length = i := by rw [o_jy, List.length_take]; omega
 obtain ⟨r, hr⟩ : ∃ r, A.length = i + r + 1 := ⟨A.length - i - 1, by omega⟩
 rw [rowM, rowM, o_jx, o_jx, o_jp _ _ h, o_jz, o_k0, hr, show i + r + 1 - i = r + 1 by omega, show i + r + 1 - (i + 1) = r by omega, List.replicate_succ]
 simp only [List.append_assoc, List.cons_append, List.nil_append]
 rw [List.set_append_right _ _ (by omega), List.set_append_right _ _ (by omega), e]
 simp

def cellM (k : Nat) (A : List Nat) (i : Nat) : List V := U (rowM k A i)
@[simp] theorem o_lk (n : Nat) (l : List Nat) : V.lowl n (U l) = true := by induction l <;> simp_all [U, V.lowl, V.low]

set_option maxHeartbeats 1000000 in
theorem o_ll (A : List Nat) (k : Nat) (hk : k < 64) (hs : small A) (hn : A.length ≤ 1000000) : Eqn Tryz.prog o_hg [.d (W A), .d (.int .i64 k)] [] (.d (W (movedL k 0 A))) [] := by
 refine Eqn.pure o_hi (o_58 _) ?_
 simp only [o_hh, W]
 refine G0 ?_; try with_reducible exact tt
 rw [show List.replicate (A.length + 1) (V.d (.int .u64 0)) = cellM k A 0 by rw [cellM, o_lg]; simp [U]]
 have hlow : ∀ i, V.lowl 1 (cellM k A i) = true := fun i => o_lk 1 _
 refine AW.loopT (α := Nat) 1 (fun i => [(14, .d (.int .i64 (i : Int)))]) (fun i => [(0, ⟨194, cellM k A i⟩)]) (fun i => i ≤ A.length) (fun i => A.length - i) 0 ?_ ?_ (Nat.zero_le _) ?_ ?_ ?_
 ·simp
 ·simp
 ·simp
 ·simp [hlow]
 rintro i hi
 simp
 by_cases h : i = A.length
 ·subst h
  refine G0 ?_; try with_reducible exact tt
  refine AW.cond rfl (fun h => ?_) (fun h => ?_)
  ·simp at h
  refine AW.exit ?_
  (try (simp -implicitDefEqProofs; try simp (disch := omega) only [w64, wu64]))
  have hl : (movedL k 0 A).length = A.length + 1 := o_ju _ _ _
  rw [cellM, o_lh]
  generalize movedL k 0 A = ws at hl
  refine AW.freeze 0 1 ⟨194, _⟩ (ws.map fun x : Nat => .int .u64 x) (by rfl) (by simp) ?_
  simp [← hl, List.take_of_length_le]
  refine G0 ?_; try with_reducible exact tt
 ·have hi' : i < A.length := by omega
  have hp : (i : Int) < A.length := by omega
  obtain ⟨c, y, u, hl, hq, hor, hw, hd, hset⟩ : ∃ c z u : Nat, (cellM k A i).length = A.length + 1 ∧ (cellM k A i)[i]? = some (.d (.int .u64 c)) ∧ bits BinOp.or IntKind.u64 (c : Int) (IntKind.u64.wrap ((A[i] : Int) * 2 ^ k)) = (z : Int) ∧
    True ∧ (A[i] : Int) / 2 ^ (64 - k) = (u : Int) ∧ ((cellM k A i).set i (.d (.int .u64 z))).set (i + 1) (.d (.int .u64 u)) = cellM k A (i + 1) := by
   have hl := o_lf k A i hi
   have hc := o_k2 (k := k) (l := A.take i) (c := 0) (hs.take i) (Nat.two_pow_pos k)
   have hset := o_lj k A i hi'
   rw [← o_kr hi'] at hset
   refine ⟨movedC k 0 (A.take i), A[i] * 2 ^ k % 18446744073709551616 + movedC k 0 (A.take i), A[i] * 2 ^ k / 18446744073709551616, by simp [cellM, U, hl], ?_, ?_, trivial, ?_, ?_⟩
   ·have := o_li k A i hi'
    rw [List.getD, List.getElem?_eq_getElem (by omega)] at this
    rw [cellM, U, List.getElem?_map, List.getElem?_eq_getElem (by omega)]
    simp at this
    simp [this]
   ·rw [show IntKind.u64.wrap ((A[i] : Int) * 2 ^ k) = ((A[i] * 2 ^ k % 18446744073709551616 : Nat) : Int) by rw [IntKind.wrap_u64, Int.natCast_emod, Int.natCast_mul, Int.natCast_pow]; rfl]
    rw [bits_or_u64_nat _ _ (Nat.lt_of_lt_of_le hc (by rw [show (18446744073709551616 : Nat) = 2 ^ 64 by rfl]; exact Nat.pow_le_pow_right (by decide) (by omega))) (Nat.mod_lt _ (by decide)), o_k3 hk hc]
   ·rw [o_k4 (by omega), Int.natCast_ediv, Int.natCast_pow]; rfl
   ·rw [cellM, cellM, ← hset, U, U, List.map_set, List.map_set]
  have hn : ((64 : Int) - k).toNat = 64 - k := by omega
  have e1 : IntKind.i64.wrap ((i : Int) + 1) = (i : Int) + 1 := w64 (by omega) (by omega)
  have e2 : IntKind.i64.wrap ((64 : Int) - k) = (64 : Int) - k := w64 (by omega) (by omega)
  generalize cellM k A i = cm at hl hq hset
  refine G1 (fs hi' hp) ?_; try with_reducible exact tt
  refine AW.cond rfl (fun h => ?_) (fun h => ?_)
  ·clear h
   refine G1 (fs hi' (fs hp (fs hl (fs hq (fs hor (fs e1 (fs e2 (fs hn (fs hd hset))))))))) ?_; try with_reducible exact tt
   exact ⟨i + 1, by omega, by omega, by simp [wk], by simp [wkH, hlow]⟩
  ·simp at h
end
section
open Go.RowKit
theorem o_lm (n : Nat) : (words n).length = size n := rfl

set_option maxHeartbeats 1000000 in
theorem o_ln (a n : Nat) (ha : size a ≤ 1000000) (hn : n ≤ 8192) : Eqn Tryz.prog o_hp [.d (.agg [natW a]), .d (.int .i64 n)] [] (.tup [.d (.agg [natW (a * 2 ^ n)]), .d (.int .i64 0)]) [] := by
 refine Eqn.pure o_hr (o_l8 _ _) ?_
 simp only [o_hq, natW, W]
 have h1 : ¬ (n : Int) < 0 := by omega
 have h2 : ¬ (8192 : Int) < n := by omega
 refine G1 (fs h1 h2) ?_; try with_reducible exact tt
 refine AW.cond rfl (fun h => ?_) (fun h => ?_)
 ·simp [h1, h2] at h
 have hq : (n : Int) / 64 = (n / 64 : Nat) := rfl
 have hr : (n : Int).tmod 64 = (n % 64 : Nat) := by rw [Int.tmod_eq_emod_of_nonneg (by omega)]; rfl
 have hd : n / 64 ≤ 128 := by omega
 have hm : n % 64 < 64 := by omega
 have hv : ∀ l : List Nat, wval l = a → wval (List.replicate (n / 64) 0 ++ movedL (n % 64) 0 l) = a * 2 ^ n := by
  intro l hl
  rw [o_jm, o_jn, o_jv, List.length_replicate, hl, Nat.zero_add, Nat.add_zero]
  rw [show (18446744073709551616 : Nat) = 2 ^ 64 by rfl, ← Nat.pow_mul, Nat.mul_left_comm, ← Nat.pow_add, Nat.div_add_mod]
 replace hv := hv (words a) (o_kj a)
 have hsm : small (List.replicate (n / 64) 0 ++ movedL (n % 64) 0 (words a)) := by
  intro x hx
  rcases List.mem_append.1 hx with hx | hx
  ·rw [List.eq_of_mem_replicate hx]; omega
  ·exact o_jw hm (o_kk a) (Nat.two_pow_pos _) x hx
 have hl := o_ju (n % 64) (words a) 0
 generalize n / 64 = q at *
 generalize n % 64 = r at *
 unfold size at ha
 refine G1 (fs hq hr) ?_; try with_reducible exact tt
 refine CallS.pu (o_ll (words a) r hm (o_kk a) (by omega)) ?_
 (try (simp -implicitDefEqProofs [W, hl]; try simp (disch := omega) only [w64, wu64]))
 repeat (first | refine AW.seq ?_ | refine AW.block ?_ | (refine AW.reg mix ?_; simp -implicitDefEqProofs [W, hl]; try simp (disch := omega) only [w64, wu64]) | (refine need.of (by first | omega | kernel_rfl) ?_) | (refine AW.fin ?_; try simp -implicitDefEqProofs [W, hl]))
 have hlen : (List.replicate q 0 ++ movedL r 0 (words a)).length = q + ((words a).length + 1) := by simp [hl]
 have hcell : List.replicate q (V.d (.int .u64 0)) ++ List.map (V.d ∘ fun x : Nat => D.int .u64 x) (movedL r 0 (words a)) = ((List.replicate q 0 ++ movedL r 0 (words a)).map fun x : Nat => D.int .u64 x).map V.d := by simp
 rw [hcell]
 generalize List.replicate q 0 ++ movedL r 0 (words a) = ws at *
 have hlen2 : q + ((words a).length + 1) = ws.length := hlen.symm
 refine CallS.pf 3 1 ⟨194, _⟩ (ws.map fun x : Nat => .int .u64 x) (o_ks ws hsm (by omega)) (by first | rfl | (simp [natW, W, hlen2, List.take_of_length_le]; done)) ?_
 (try (simp -implicitDefEqProofs [natW, W, hlen2, List.take_of_length_le]; try simp (disch := omega) only [w64, wu64]))
 repeat (first | refine AW.seq ?_ | refine AW.block ?_ | (refine AW.reg mix ?_; simp -implicitDefEqProofs [natW, W, hlen2, List.take_of_length_le]; try simp (disch := omega) only [w64, wu64]) | (refine need.of (by first | omega | kernel_rfl) ?_) | (refine AW.fin ?_; try simp -implicitDefEqProofs [natW, W, hlen2, List.take_of_length_le]))
 refine Sub1.of ?_
 rw [hv]
end
section
open Go.RowKit
theorem o_lo {x : Nat} (h0 : 0 < x) (h : x < 18446744073709551616) : words x = [x] := by
 have := o_km (ws := [x]) (by intro y hy; simp at hy; omega) (by intro k hk; simp at hk; subst hk; simp; omega)
 simpa [wval] using this
theorem o_lp {x : Nat} (h : x < 18446744073709551616) : small [x] := by intro y hy; simp at hy; omega

theorem Sub1.tup {l r : List V} (h : Subs l r) : Sub1 (.tup l) (.tup r) := fun m v k => by
 unfold V.rep at k ⊢
 obtain ⟨vs, h1, h2⟩ := k
 exact ⟨vs, h1, h m vs h2⟩
theorem Subs.cons {x y : V} {l r : List V} (h : Sub1 x y) (h' : Subs l r) : Subs (x :: l) (y :: r) := fun m vs k => by
 obtain ⟨v, r, rfl, h1, h2⟩ := V.reps_cons'.1 k
 exact V.reps_cons.2 ⟨h m v h1, h' m r h2⟩
theorem Sub1.nat0 : Sub1 (.d (.agg [.nilsl])) (.d (.agg [natW 0])) := fun m v k => by
 rw [V.rep_d] at k ⊢
 unfold D.rep at k ⊢
 obtain ⟨vs, h1, h2, h3⟩ := k
 refine ⟨vs, h1, h2, ?_⟩
 obtain ⟨u, r, rfl, h4, h5⟩ := D.reps_cons'.1 h3
 have := (V.rep_d (m := m)).1 (Sub1.nil m u (V.rep_d.2 h4))
 exact D.reps_cons.2 ⟨this, h5⟩

theorem o_lq {m n : Nat} : cmpZ m n < 0 ↔ m < n := by unfold cmpZ; split <;> (try split) <;> omega
theorem o_lr (x y : Nat) (hx : x < 18446744073709551616) (h0 : 0 < y) : Eqn Tryz.prog o_fp [.d (.int .u64 0), .d (.int .u64 x), .d (.int .u64 y)] [] (.tup [.d (.int .u64 (x / y : Nat)), .d (.int .u64 (x % y : Nat))]) [] := by
 refine Eqn.pure o_fr (o_l8 _ _) ?_
 simp only [o_fq]
 have h1 : ¬ (y : Int) = 0 := by omega
 have h1' : ¬ y = 0 := by omega
 have h2 : ¬ (y : Int) ≤ 0 := by omega
 refine G1 (fs h1 (fs h2 h1')) ?_; try with_reducible exact tt
 refine AW.cond rfl (fun h => ?_) (fun h => ?_)
 ·simp [h1'] at h
 refine G1 (fs h1 (fs h2 h1')) ?_; try with_reducible exact tt
 refine AW.cond rfl (fun h => ?_) (fun h => ?_)
 ·simp [h1', h2] at h
 refine G1 (fs h1 (fs h2 h1')) ?_; try with_reducible exact tt
 refine AW.cond rfl (fun h => ?_) (fun h => ?_)
 ·have hle := Nat.div_le_self x y
  have e1 : IntKind.u64.wrap ((x : Int) / y) = (x : Int) / y := by
   rw [← Int.natCast_ediv]
   generalize x / y = q at *
   exact wu64 (by omega) (by omega)
  have e2 : (x : Int).tmod y = ((x % y : Nat) : Int) := by rw [Int.tmod_eq_emod_of_nonneg (by omega)]; rfl
  refine G1 (fs h1 (fs h2 (fs h1' (fs e1 e2)))) ?_; try with_reducible exact tt
 ·simp at h

theorem o_ls (x y : Nat) (hx : x < 18446744073709551616) (h0 : 0 < y) (hy : y < 18446744073709551616) : Eqn Tryz.prog o_ci [.d (.sl 1 [.int .u64 x]), .d (.int .u64 y)] [] (.tup [.d (.sl 1 [.int .u64 (x / y : Nat)]), .d (.int .u64 (x % y : Nat))]) [] := by
 refine Eqn.pure o_ck (o_l8 _ _) ?_
 simp only [o_cj]
 refine G0 ?_; try with_reducible exact tt
 refine AW.loopT (α := Nat) 1 (fun i => [(8, .d (.int .i64 ((i : Int) - 1))), (7, .d (.int .u64 (if i = 0 then (x % y : Nat) else 0)))]) (fun i => [(0, ⟨194, [.d (.int .u64 (if i = 0 then (x / y : Nat) else 0))]⟩)]) (fun i => i ≤ 1) (fun i => i) 1 ?_ ?_ (Nat.le_refl _) ?_ ?_ ?_
 ·simp
 ·simp
 ·simp
 ·simp
 rintro i hi
 simp
 cases i with
 | zero =>
  refine G0 ?_; try with_reducible exact tt
  refine AW.cond rfl (fun h => ?_) (fun h => ?_)
  ·simp at h
  refine AW.exit ?_
  (try (simp -implicitDefEqProofs; try simp (disch := omega) only [w64, wu64]))
  refine AW.freeze 0 1 ⟨194, _⟩ [.int .u64 (x / y : Nat)] (by rfl) (by simp) ?_
  simp
  refine G0 ?_; try with_reducible exact tt
 | succ i =>
  obtain rfl : i = 0 := by omega
  refine G0 ?_; try with_reducible exact tt
  refine AW.cond rfl (fun h => ?_) (fun h => ?_)
  ·refine G0 ?_; try with_reducible exact tt
   refine CallS.pu (o_lr x y hx h0) (R0 ?_); try with_reducible exact tt
   exact ⟨0, by omega, rfl, by simp, by simp⟩
  ·simp at h

theorem o_lt (a b : Nat) (ha : a < 18446744073709551616) (h0 : 0 < b) (hb : b < 18446744073709551616) : Eqn Tryz.prog o_d0 [.d (.agg [natW a]), .d (.agg [natW b])] [] (.tup [.d (.agg [natW (a / b)]), .d (.agg [natW (a % b)]), .d (.int .i64 0)]) [] := by
 refine Eqn.pure o_d2 (o_l9 _ _ _) ?_
 have sa : size a ≤ 1 := by
  rw [size]
  rcases Nat.eq_zero_or_pos a with rfl | h
  ·simp [words, wordsF]
  ·rw [o_lo h ha]; simp
 have sb : size b ≤ 1 := by rw [size, o_lo h0 hb]; simp
 simp only [o_d1]
 refine G0 ?_; try with_reducible exact tt
 refine CallS.pu (o_ku b) (R0 ?_); try with_reducible exact tt
 have hz : (b == 0) = false := by simp; omega
 refine AW.cond rfl (fun h => ?_) (fun h => ?_)
 ·simp [hz] at h
 refine G0 ?_; try with_reducible exact tt
 refine CallS.pu (o_kw a b (by omega) (by omega)) (R0 ?_); try with_reducible exact tt
 refine AW.cond rfl (fun h => ?_) (fun h => ?_)
 ·have hlt : a < b := by simpa [o_lq] using h
  rw [Nat.div_eq_of_lt hlt, Nat.mod_eq_of_lt hlt]
  refine G0 ?_; try with_reducible exact tt
  refine CallS.pu (o_kt (words a) (o_kk a) (by unfold size at sa; omega)) (R0 ?_); try with_reducible exact tt
  rw [o_kj]
  exact Sub1.tup (Subs.cons (Sub1.nat0) (Subs.refl _))
 ·have hge : ¬ a < b := fun hlt => by simp [o_lq, hlt] at h
  have e : natW a = .sl 1 [.int .u64 a] := by rw [natW, o_lo (by omega) ha]; rfl
  have e' : natW b = .sl 1 [.int .u64 b] := by rw [natW, o_lo (by omega) hb]; rfl
  refine G1 (fs e e') ?_; try with_reducible exact tt
  refine AW.cond rfl (fun h => ?_) (fun h => ?_)
  ·refine G1 (fs e e') ?_; try with_reducible exact tt
   refine CallS.pu (o_ls a b ha h0 hb) (R0 ?_); try with_reducible exact tt
   refine CallS.pu (o_ks [a / b] (o_lp (by have := Nat.div_le_self a b; omega)) (by simp)) (R0 ?_); try with_reducible exact tt
   refine CallS.pf 4 1 ⟨194, _⟩ [.int .u64 (a % b : Nat)] (o_kt [a % b] (o_lp (by have := Nat.mod_lt a h0; omega)) (by simp)) (by first | rfl | (simp; done)) (R0 ?_); try with_reducible exact tt
   simp [wval]
  ·simp [e'] at h
theorem o_lu (a b : Nat) (ha : a < 18446744073709551616) (hb : b < 18446744073709551616) : Eqn Tryz.prog o_cx [.d (.agg [natW a]), .d (.agg [natW b])] [] (.d (.agg [natW (Nat.gcd a b)])) [] := by
 refine Eqn.pure o_cz (o_58 _) ?_
 simp only [o_cy]
 refine G0 ?_; try with_reducible exact tt
 refine AW.loopT (α := Nat × Nat) 3 (fun _ => []) (fun p => [(0, ⟨25, [.d (natW p.1)]⟩), (1, ⟨25, [.d (natW p.2)]⟩)]) (fun p => p.1 < 18446744073709551616 ∧ p.2 < 18446744073709551616 ∧ Nat.gcd p.1 p.2 = Nat.gcd a b) (fun p => p.2) (a, b) ?_ ?_ ⟨ha, hb, rfl⟩ ?_ ?_ ?_
 ·simp
 ·simp
 ·simp
 ·simp
 rintro ⟨x, y⟩ ⟨hx, hy, hg⟩
 simp only at hx hy hg
 simp
 refine G0 ?_; try with_reducible exact tt
 refine CallS.pu (o_ku y) (R0 ?_); try with_reducible exact tt
 by_cases h0 : y = 0
 ·subst h0
  simp
  refine AW.cond rfl (fun h => ?_) (fun h => ?_)
  ·simp at h
  refine AW.exit ?_
  (try (simp -implicitDefEqProofs; try simp (disch := omega) only [w64, wu64]))
  have sx : size x ≤ 1 := by
   rw [size]
   rcases Nat.eq_zero_or_pos x with rfl | h
   ·simp [words, wordsF]
   ·rw [o_lo h hx]; simp
  refine G0 ?_; try with_reducible exact tt
  refine CallS.pu (o_kt (words x) (o_kk x) (by unfold size at sx; omega)) (R0 ?_); try with_reducible exact tt
  refine Sub1.of ?_
  rw [o_kj, ← hg, Nat.gcd_zero_right]
 ·refine AW.cond rfl (fun h => ?_) (fun h => ?_)
  ·refine G0 ?_; try with_reducible exact tt
   refine CallS.pu (o_lt x y hx (by omega) hy) (R0 ?_); try with_reducible exact tt
   have hlt := Nat.mod_lt x (show y > 0 by omega)
   exact ⟨y, x % y, ⟨hy, by omega, by rw [← hg, Nat.gcd_comm y, ← Nat.gcd_rec, Nat.gcd_comm]⟩, hlt, Subs.refl _, Subs.refl _⟩
  ·simp at h
   exact absurd h h0
end
section
open Go.RowKit
theorem o_lv {x : Nat} (h : x < 18446744073709551616) : size x ≤ 1 := by
 rw [size]
 rcases Nat.eq_zero_or_pos x with rfl | h0
 ·simp [words, wordsF]
 ·rw [o_lo h0 h]; simp

theorem o_lw (a : Nat) : Eqn Tryz.prog o_c3 [.d (.bool false), .d (.agg [natW a])] [] (.d (.agg [natW a, .bool false])) [] := by
 refine Eqn.pure o_c5 (o_58 _) ?_
 simp only [o_c4]
 refine G0 ?_; try with_reducible exact tt

theorem o_lx (a : Nat) (s : Bool) : Eqn Tryz.prog o_c0 [.d (.agg [natW a, .bool s])] [] (.d (.agg [natW a])) [] := by
 refine Eqn.pure o_c2 (o_58 _) ?_
 simp only [o_c1]
 refine G0 ?_; try with_reducible exact tt

theorem o_ly (a : Nat) (s : Bool) : Eqn Tryz.prog o_c6 [.d (.agg [natW a, .bool s])] [] (.d (.bool s)) [] := by
 refine Eqn.pure o_c8 (o_58 _) ?_
 simp only [o_c7]
 refine G0 ?_; try with_reducible exact tt

theorem o_lz (n : Nat) (h : n < 9223372036854775808) : Eqn Tryz.prog o_8y [.d (.int .i64 n)] [] (.d (.agg [natW n, .bool false])) [] := by
 refine Eqn.pure o_90 (o_58 _) ?_
 simp only [o_8z]
 have h0 : ¬ (n : Int) < 0 := by omega
 refine G0 ?_; try with_reducible exact tt
 refine AW.cond rfl (fun h => ?_) (fun h => ?_)
 ·simp [h0] at h
 have e : IntKind.u64.wrap (n : Int) = n := wu64 (by omega) (by omega)
 refine G1 e ?_; try with_reducible exact tt
 refine CallS.pf 1 1 ⟨194, _⟩ [.int .u64 n] (o_kt [n] (o_lp (by omega)) (by simp)) (by first | rfl | (simp; done)) (R0 ?_); try with_reducible exact tt
 refine CallS.pu (o_lw n) (R0 ?_); try with_reducible exact tt

theorem o_m0 (a d : Nat) (s : Bool) (h : size d ≤ 1000000) : Eqn Tryz.prog o_8j [.d (.agg [natW a, .bool s, natW d])] [] (.d (.agg [natW (d + 1)])) [] := by
 refine Eqn.pure o_8l (o_58 _) ?_
 simp only [o_8k]
 refine G0 ?_; try with_reducible exact tt
 refine CallS.pf 2 1 ⟨194, _⟩ [.int .u64 (1 : Nat)] (o_kt [1] (o_lp (by omega)) (by simp)) (by first | rfl | (simp; done)) (R0 ?_); try with_reducible exact tt
 refine CallS.pu (o_la d 1 h (by have := o_lv (x := 1) (by omega); omega)) (R0 ?_); try with_reducible exact tt
theorem o_m1 (a b : Nat) (ha : a < 18446744073709551616) (h0 : 0 < b) (hb : b < 18446744073709551616) : Eqn Tryz.prog o_94 [.d (.agg [natW a, .bool false]), .d (.agg [natW b])] [] (.d (.agg [natW (a / Nat.gcd a b), .bool false, natW (b / Nat.gcd a b - 1)])) [] := by
 refine Eqn.pure o_96 (o_58 _) ?_
 simp only [o_95]
 have hg : 0 < Nat.gcd a b := Nat.gcd_pos_of_pos_right _ h0
 have hg2 : Nat.gcd a b ≤ b := Nat.gcd_le_right _ h0
 have hq : 0 < b / Nat.gcd a b := Nat.div_pos hg2 hg
 have hq2 : b / Nat.gcd a b ≤ b := Nat.div_le_self _ _
 refine G0 ?_; try with_reducible exact tt
 refine CallS.pu (o_lx a false) (R0 ?_); try with_reducible exact tt
 refine CallS.pu (o_lu a b ha hb) (R0 ?_); try with_reducible exact tt
 generalize Nat.gcd a b = g at *
 refine CallS.pu (o_lx a false) (R0 ?_); try with_reducible exact tt
 refine CallS.pu (o_lt a g ha hg (by omega)) (R0 ?_); try with_reducible exact tt
 refine CallS.pu (o_lt b g hb hg (by omega)) (R0 ?_); try with_reducible exact tt
 refine CallS.pf 8 1 ⟨194, _⟩ [.int .u64 (1 : Nat)] (o_kt [1] (o_lp (by omega)) (by simp)) (by first | rfl | (simp; done)) (R0 ?_); try with_reducible exact tt
 refine CallS.pu (o_le (b / g) 1 (by have := o_lv (x := b / g) (by omega); omega) (by omega)) (R0 ?_); try with_reducible exact tt
 refine CallS.pu (o_ly a false) (R0 ?_); try with_reducible exact tt
 refine CallS.pu (o_lw (a / g)) (R0 ?_); try with_reducible exact tt

theorem o_m2 (k : Nat) (hk : k < 64) : Eqn Tryz.prog o_gp [.d (.int .i64 k)] [] (.tup [.d (.agg [natW 1, .bool false, natW (2 ^ k - 1)]), .d (.int .i64 0)]) [] := by
 refine Eqn.pure o_gr (o_l8 _ _) ?_
 simp only [o_gq]
 refine G0 ?_; try with_reducible exact tt
 refine CallS.pf 1 1 ⟨194, _⟩ [.int .u64 (1 : Nat)] (o_kt [1] (o_lp (by omega)) (by simp)) (by first | rfl | (simp; done)) (R0 ?_); try with_reducible exact tt
 refine CallS.pu (o_ln 1 k (by have := o_lv (x := 1) (by omega); omega) (by omega)) (R0 ?_); try with_reducible exact tt
 refine AW.cond rfl (fun h => ?_) (fun h => ?_)
 ·simp at h
 refine G0 ?_; try with_reducible exact tt
 refine CallS.pu (o_lz 1 (by omega)) (R0 ?_); try with_reducible exact tt
 refine CallS.pu (o_m1 1 (2 ^ k) (by omega) (Nat.two_pow_pos k) (Nat.pow_lt_pow_right (by omega) hk)) (R0 ?_); try with_reducible exact tt
end
section
open Go.RowKit
def lit1 : ByteArray := ⟨#[48, 49, 50, 51, 52, 53, 54, 55, 56, 57, 97, 98, 99, 100, 101, 102, 103, 104, 105, 106, 107, 108, 109, 110, 111, 112, 113, 114, 115, 116, 117, 118, 119, 120, 121, 122]⟩
def lit2 : ByteArray := ⟨#[48, 48, 48, 49, 48, 50, 48, 51, 48, 52, 48, 53, 48, 54, 48, 55, 48, 56, 48, 57, 49, 48, 49, 49, 49, 50, 49, 51, 49, 52, 49, 53, 49, 54, 49, 55, 49, 56, 49, 57, 50, 48, 50, 49, 50, 50, 50, 51, 50, 52, 50, 53, 50, 54, 50, 55, 50, 56, 50, 57, 51, 48, 51, 49, 51, 50, 51, 51, 51, 52, 51, 53, 51, 54, 51, 55, 51, 56, 51, 57, 52, 48, 52, 49, 52, 50, 52, 51, 52, 52, 52, 53, 52, 54, 52, 55, 52, 56, 52, 57, 53, 48, 53, 49, 53, 50, 53, 51, 53, 52, 53, 53, 53, 54, 53, 55, 53, 56, 53, 57, 54, 48, 54, 49, 54, 50, 54, 51, 54, 52, 54, 53, 54, 54, 54, 55, 54, 56, 54, 57, 55, 48, 55, 49, 55, 50, 55, 51, 55, 52, 55, 53, 55, 54, 55, 55, 55, 56, 55, 57, 56, 48, 56, 49, 56, 50, 56, 51, 56, 52, 56, 53, 56, 54, 56, 55, 56, 56, 56, 57, 57, 48, 57, 49, 57, 50, 57, 51, 57, 52, 57, 53, 57, 54, 57, 55, 57, 56, 57, 57]⟩
theorem o_m3 : lit1.size = 36 := by kernel_rfl
theorem o_m4 : lit2.size = 200 := by kernel_rfl
def smallS (n : Nat) : ByteArray := if n < 10 then lit1.extract n (n + 1) else lit2.extract (n * 2) (n * 2 + 2)

theorem o_m5 (n : Nat) (h : n < 100) : Eqn Tryz.prog o_h4 [.d (.int .i64 n)] [] (.d (.str (smallS n))) [] := by
 refine Eqn.pure o_h6 (o_58 _) ?_
 simp only [o_h5]
 rw [show (⟨#[48, 49, 50, 51, 52, 53, 54, 55, 56, 57, 97, 98, 99, 100, 101, 102, 103, 104, 105, 106, 107, 108, 109, 110, 111, 112, 113, 114, 115, 116, 117, 118, 119, 120, 121, 122]⟩ : ByteArray) = lit1 from rfl, show (⟨#[48, 48, 48, 49, 48, 50, 48, 51, 48, 52, 48, 53, 48, 54, 48, 55, 48, 56, 48, 57, 49, 48, 49, 49, 49, 50, 49, 51, 49, 52, 49, 53, 49, 54, 49, 55, 49, 56, 49, 57, 50, 48, 50, 49, 50, 50, 50, 51, 50, 52, 50, 53, 50, 54, 50, 55, 50, 56, 50, 57, 51, 48, 51, 49, 51, 50, 51, 51, 51, 52, 51, 53, 51, 54, 51, 55, 51, 56, 51, 57, 52, 48, 52, 49, 52, 50, 52, 51, 52, 52, 52, 53, 52, 54, 52, 55, 52, 56, 52, 57, 53, 48, 53, 49, 53, 50, 53, 51, 53, 52, 53, 53, 53, 54, 53, 55, 53, 56, 53, 57, 54, 48, 54, 49, 54, 50, 54, 51, 54, 52, 54, 53, 54, 54, 54, 55, 54, 56, 54, 57, 55, 48, 55, 49, 55, 50, 55, 51, 55, 52, 55, 53, 55, 54, 55, 55, 55, 56, 55, 57, 56, 48, 56, 49, 56, 50, 56, 51, 56, 52, 56, 53, 56, 54, 56, 55, 56, 56, 56, 57, 57, 48, 57, 49, 57, 50, 57, 51, 57, 52, 57, 53, 57, 54, 57, 55, 57, 56, 57, 57]⟩ : ByteArray) = lit2 from rfl]
 have e1 := o_m3
 have e2 := o_m4
 generalize hl1 : lit1 = l1 at *
 generalize hl2 : lit2 = l2 at *
 by_cases hs : n < 10
 ·have hs' : (n : Int) < 10 := by omega
  refine G1 hs' ?_; try with_reducible exact tt
  refine AW.cond rfl (fun h => ?_) (fun h => ?_)
  ·have ew : IntKind.i64.wrap ((n : Int) + 1) = (n : Int) + 1 := w64 (by omega) (by omega)
   refine G1 (fs ew e1) ?_; try with_reducible exact tt
   refine Sub1.of ?_
   rw [smallS, if_pos hs, hl1]
  ·simp [hs] at h
 ·have hs' : ¬ (n : Int) < 10 := by omega
  refine G1 hs' ?_; try with_reducible exact tt
  refine AW.cond rfl (fun h => ?_) (fun h => ?_)
  ·simp [hs] at h
  ·have ew : IntKind.i64.wrap ((n : Int) * 2) = (n : Int) * 2 := w64 (by omega) (by omega)
   have ew2 : IntKind.i64.wrap ((n : Int) * 2 + 2) = (n : Int) * 2 + 2 := w64 (by omega) (by omega)
   refine G1 (fs ew (fs ew2 e2)) ?_; try with_reducible exact tt
   refine Sub1.of ?_
   rw [smallS, if_neg hs, hl2, show ((n : Int) * 2).toNat = n * 2 by omega, show ((n : Int) * 2 + 2).toNat = n * 2 + 2 by omega]

@[simp] theorem o_m6 : ByteArray.size ⟨#[]⟩ = 0 := rfl
@[simp] theorem o_m7 : ByteArray.size ⟨#[47]⟩ = 1 := rfl
theorem o_m8 (s : ByteArray) : s ++ (⟨#[]⟩ : ByteArray) = s := by
 exact ByteArray.append_empty
theorem o_m9 (n : Nat) (h : n < 100) : Eqn Tryz.prog o_fs [.d (.int .u64 n), .d (.int .i64 10)] [] (.d (.str (smallS n))) [] := by
 refine Eqn.pure o_fu (o_58 _) ?_
 simp only [o_ft]
 have h1 : (n : Int) < 100 := by omega
 refine G1 h1 ?_; try with_reducible exact tt
 refine AW.cond rfl (fun h => ?_) (fun h => ?_)
 ·refine G1 h1 ?_; try with_reducible exact tt
  refine AW.cond rfl (fun h => ?_) (fun h => ?_)
  ·have e : IntKind.i64.wrap (n : Int) = n := w64 (by omega) (by omega)
   refine G1 e ?_; try with_reducible exact tt
   refine CallS.pu (o_m5 n (by omega)) (R0 ?_); try with_reducible exact tt
  ·simp [h1] at h
 ·simp at h
end
section
def padN : Nat → Nat → List Nat
 | 0, _ => []
 | w + 1, n => padN w (n / 10) ++ [48 + n % 10]
theorem o_ma : ∀ w n, (padN w n).length = w
 | 0, _ => rfl
 | w + 1, n => by rw [padN, List.length_append, o_ma w]; rfl
theorem o_mb (a : Nat) : ∀ b n, padN (a + b) n = padN a (n / 10 ^ b) ++ padN b n
 | 0, n => by simp [padN]
 | b + 1, n => by
  rw [← Nat.add_assoc, padN, padN, o_mb a b, Nat.div_div_eq_div_mul, Nat.pow_succ, Nat.mul_comm 10, List.append_assoc]
theorem o_mc (u : Nat) : padN 4 u = [48 + u / 1000 % 10, 48 + u / 100 % 10, 48 + u / 10 % 10, 48 + u % 10] := by
 simp [padN, Nat.div_div_eq_div_mul]
theorem o_md (u : Nat) : padN 2 u = [48 + u / 10 % 10, 48 + u % 10] := by simp [padN]
theorem o_me : ∀ w, padN w 0 = List.replicate w 48
 | 0 => rfl
 | w + 1 => by rw [padN, Nat.zero_div, o_me w, ← List.replicate_succ']
theorem o_mf (a b n : Nat) (h : n < 10 ^ b) : padN (a + b) n = List.replicate a 48 ++ padN b n := by
 rw [o_mb, Nat.div_eq_of_lt h, o_me]
theorem o_mg : ∀ w n, padN w (n % 10 ^ w) = padN w n
 | 0, _ => rfl
 | w + 1, n => by
  rw [padN, padN]
  have e1 : n % 10 ^ (w + 1) / 10 = n / 10 % 10 ^ w := by rw [Nat.pow_succ, Nat.mul_comm, Nat.mod_mul_right_div_self]
  have e2 : n % 10 ^ (w + 1) % 10 = n % 10 := by rw [Nat.pow_succ, Nat.mul_comm, Nat.mod_mul_right_mod]
  rw [e1, e2, o_mg w]
def ndig (n : Nat) : Nat := if n < 10 then 1 else ndig (n / 10) + 1
termination_by n
decreasing_by omega
theorem o_mh : ∀ (k n : Nat), 10 ^ k ≤ n → n < 10 ^ (k + 1) → ndig n = k + 1
 | 0, n, _, h2 => by rw [ndig, if_pos (by simpa using h2)]
 | k + 1, n, h1, h2 => by
  have h10 : 10 ≤ n := Nat.le_trans (by rw [Nat.pow_succ]; have : 0 < 10 ^ k := Nat.pow_pos (by decide); omega) h1
  rw [ndig, if_neg (by omega), o_mh k (n / 10) (by rw [Nat.pow_succ] at h1; omega) (by rw [Nat.pow_succ] at h2; omega)]
theorem o_mi (n : Nat) : 0 < ndig n := by rw [ndig]; split <;> omega
theorem o_mj : ∀ n : Nat, n < 10 ^ ndig n := by
 intro n
 induction n using Nat.strongRecOn with
 | _ n ih =>
  rw [ndig]
  split
  ·simpa using ‹n < 10›
  ·have := ih (n / 10) (by omega)
   rw [Nat.pow_succ]; omega
theorem o_mk : ∀ (n k : Nat), n < 10 ^ k → 0 < k → ndig n ≤ k := by
 intro n
 induction n using Nat.strongRecOn with
 | _ n ih =>
  intro k h hk
  rw [ndig]
  split
  ·exact hk
  ·obtain ⟨j, rfl⟩ : ∃ j, k = j + 1 := ⟨k - 1, by omega⟩
   rcases Nat.eq_zero_or_pos j with rfl | hj
   ·simp at h; omega
   ·have := ih (n / 10) (by omega) j (by rw [Nat.pow_succ] at h; omega) hj
    omega
theorem o_ml : ∀ (k n : Nat), 0 < n / 10 ^ k → ndig n = ndig (n / 10 ^ k) + k
 | 0, n, _ => by simp
 | k + 1, n, h => by
  have h1 : n / 10 ^ (k + 1) = n / 10 / 10 ^ k := by rw [Nat.pow_succ, Nat.mul_comm, Nat.div_div_eq_div_mul]
  have h2 : 10 ≤ n := by
   rcases Nat.lt_or_ge n 10 with h3 | h3
   ·rw [h1, show n / 10 = 0 by omega, Nat.zero_div] at h; omega
   ·exact h3
  rw [ndig, if_neg (by omega), o_ml k (n / 10) (by rw [← h1]; exact h), h1]; omega
def decN (n : Nat) : List Nat := padN (ndig n) n
theorem o_mm (k n : Nat) (h : 0 < n / 10 ^ k) : decN n = decN (n / 10 ^ k) ++ padN k n := by
 rw [decN, o_ml k n h, o_mb, decN]
theorem o_mn (n k : Nat) (h : n < 10 ^ k) (hk : 0 < k) : List.replicate (k - (decN n).length) 48 ++ decN n = padN k n := by
 have h1 := o_mk n k h hk
 rw [decN, o_ma, ← o_mf _ _ _ (o_mj n), show k - ndig n + ndig n = k by omega]
def bst (l : List Nat) : ByteArray := ⟨(l.map UInt8.ofNat).toArray⟩
def txt (n : Nat) : ByteArray := bst (decN n)
theorem o_mo (a b : List Nat) : bst a ++ bst b = bst (a ++ b) := by
 unfold bst
 apply ByteArray.ext
 rw [ByteArray.data_append]
 simp
@[simp] theorem o_mp (l : List Nat) : (bst l).size = l.length := by
 show ((l.map UInt8.ofNat).toArray).size = _
 simp
theorem o_mq : bst [] = ⟨#[]⟩ := rfl
theorem o_mr (n : Nat) : (decN n).length = ndig n := o_ma _ _
theorem o_ms (n b : Nat) (h0 : 2 ^ (b - 1) ≤ n) (h1 : n < 2 ^ b) (hb : 0 < b) (hb2 : b ≤ 64) : b * 78913 / 262144 ≤ 19 ∧ ndig n = b * 78913 / 262144 + if 10 ^ (b * 78913 / 262144) ≤ n then 1 else 0 := by
 have key : ∀ b ∈ List.range 65, b * 78913 / 262144 ≤ 19 ∧ 2 ^ b ≤ 10 ^ (b * 78913 / 262144 + 1) ∧ (b * 78913 / 262144 = 0 ∨ 10 ^ (b * 78913 / 262144 - 1) ≤ 2 ^ (b - 1)) := by decide
 obtain ⟨k1, k2, k3⟩ := key b (by simp; omega)
 refine ⟨k1, ?_⟩
 generalize b * 78913 / 262144 = k at *
 by_cases h : 10 ^ k ≤ n
 ·rw [if_pos h, o_mh k n h (Nat.lt_of_lt_of_le h1 k2)]
 ·rw [if_neg h]
  rcases k3 with k3 | k3
  ·subst k3
   have : 0 < 2 ^ (b - 1) := Nat.pow_pos (by decide)
   simp at h; omega
  ·have hk : 0 < k := by
    rcases Nat.eq_zero_or_pos k with rfl | hk
    ·have : 0 < 2 ^ (b - 1) := Nat.pow_pos (by decide)
     simp at h; omega
    ·exact hk
   obtain ⟨j, rfl⟩ : ∃ j, k = j + 1 := ⟨k - 1, by omega⟩
   rw [o_mh j n (by simpa using Nat.le_trans k3 h0) (by omega)]
theorem o_mt (A R : List Nat) (m x : Nat) : (A ++ (List.replicate (m + 1) 0 ++ R)).set (A.length + m) x = A ++ (List.replicate m 0 ++ x :: R) := by
 rw [List.set_append_right _ _ (by omega), Nat.add_sub_cancel_left, List.set_append_left _ _ (by simp), List.replicate_succ', List.set_append_right _ _ (by simp)]
 simp
end
section
def bitsN (n : Nat) : Nat := if n = 0 then 0 else Nat.log2 n + 1
theorem o_mu (n : Nat) : n < 2 ^ bitsN n := by
 unfold bitsN
 split
 ·omega
 ·exact Nat.lt_log2_self
theorem o_mv {n k : Nat} (h : n < 2 ^ k) : bitsN n ≤ k := by
 unfold bitsN
 split
 ·omega
 ·rename_i h0
  have := (Nat.log2_lt h0).2 h
  omega
def moreY (s t : Nat) : Nat := t + (if t / 2 ^ s * 2 ^ s < t then t / 2 ^ s + 1 else t / 2 ^ s)
def shiftY (s t : Nat) : Nat := bitsN t - 1 - 2 * s
structure Pl where
 x : Nat
 shift : Nat
 value : Nat
 reply : Nat
def nextY (s : Nat) (p : Pl) : Pl := if p.reply ≤ p.value + 2 ^ p.shift then ⟨p.x + 1, shiftY s (moreY s p.reply), p.value + 2 ^ p.shift, moreY s p.reply⟩ else ⟨p.x, p.shift, p.value + 2 ^ p.shift, p.reply⟩
def placeY (s : Nat) : Nat → Pl
 | 0 => ⟨0, 0, 0, 2 ^ (2 * s)⟩
 | k + 1 => nextY s (placeY s k)

theorem o_mw {n k : Nat} (h : 2 ^ k ≤ n) : bitsN n = k + bitsN (n / 2 ^ k) := by
 have hp := Nat.two_pow_pos k
 have hq : 0 < n / 2 ^ k := Nat.div_pos h hp
 have h1 := o_mu (n / 2 ^ k)
 have h2 : 2 ^ (bitsN (n / 2 ^ k) - 1) ≤ n / 2 ^ k := by
  unfold bitsN
  rw [if_neg (by omega), Nat.add_sub_cancel]
  exact Nat.log2_self_le (by omega)
 have h3 : 0 < bitsN (n / 2 ^ k) := by unfold bitsN; rw [if_neg (by omega)]; omega
 apply Nat.le_antisymm
 ·apply o_mv
  rw [Nat.pow_add, Nat.mul_comm]
  exact (Nat.div_lt_iff_lt_mul hp).1 h1
 ·apply Nat.le_of_not_lt
  intro hlt
  have h4 := o_mu n
  have h5 : 2 ^ bitsN n ≤ 2 ^ (k + (bitsN (n / 2 ^ k) - 1)) := Nat.pow_le_pow_right (by omega) (by omega)
  rw [Nat.pow_add] at h5
  have h6 : 2 ^ k * 2 ^ (bitsN (n / 2 ^ k) - 1) ≤ n := by
   rw [Nat.mul_comm]; exact Nat.le_trans (Nat.mul_le_mul_right _ h2) (Nat.div_mul_le_self _ _)
  omega
theorem o_mx {n : Nat} (h : 0 < n) : 2 ^ (bitsN n - 1) ≤ n ∧ 0 < bitsN n := by
 unfold bitsN
 rw [if_neg (by omega), Nat.add_sub_cancel]
 exact ⟨Nat.log2_self_le (by omega), by omega⟩

theorem o_my {s t : Nat} (hs : 1 ≤ s) (ht : 2 ≤ t) : moreY s t ≤ 2 * t := by
 unfold moreY
 have h2 : 2 ≤ 2 ^ s := by
  calc 2 = 2 ^ 1 := by decide
   _ ≤ 2 ^ s := Nat.pow_le_pow_right (by decide) hs
 have h1 : t / 2 ^ s ≤ t / 2 := Nat.div_le_div_left h2 (by decide)
 split <;> omega

theorem o_mz {s : Nat} (hs : 1 ≤ s) : ∀ k, 4 ≤ (placeY s k).reply ∧ (placeY s k).reply ≤ 2 ^ (2 * s + k) ∧ (placeY s k).shift ≤ 2 * s + k ∧ (placeY s k).value ≤ k * 2 ^ (2 * s + k) ∧ (placeY s k).x ≤ k := by
 intro k
 induction k with
 | zero =>
  simp only [placeY]
  have : 2 ^ 2 ≤ 2 ^ (2 * s) := Nat.pow_le_pow_right (by decide) (by omega)
  rw [Nat.add_zero]
  omega
 | succ k ih =>
  obtain ⟨h1, h2, h3, h4, h5⟩ := ih
  have hp : 2 ^ (2 * s + (k + 1)) = 2 * 2 ^ (2 * s + k) := by rw [show 2 * s + (k + 1) = 2 * s + k + 1 by omega, Nat.pow_succ]; omega
  have hm := o_my hs (show 2 ≤ (placeY s k).reply by omega)
  have hm4 : (placeY s k).reply ≤ moreY s (placeY s k).reply := by unfold moreY; omega
  have hsh : 2 ^ (placeY s k).shift ≤ 2 ^ (2 * s + k) := Nat.pow_le_pow_right (by decide) h3
  have hv : (placeY s k).value + 2 ^ (placeY s k).shift ≤ (k + 1) * 2 ^ (2 * s + (k + 1)) := by
   rw [hp, Nat.add_mul, Nat.one_mul, Nat.mul_left_comm]
   generalize 2 ^ (2 * s + k) = P at *
   generalize k * P = Q at *
   omega
  have hb : bitsN (moreY s (placeY s k).reply) ≤ 2 * s + (k + 1) + 1 := o_mv (by
   rw [Nat.pow_succ, hp]
   have : 0 < 2 ^ (2 * s + k) := Nat.pow_pos (by decide)
   omega)
  simp only [placeY, nextY]
  split
  ·refine ⟨by simp only; omega, by simp only; omega, ?_, hv, by simp only; omega⟩
   simp only [shiftY]
   omega
  ·refine ⟨by simp only; omega, by simp only; omega, by simp only; omega, hv, by simp only; omega⟩
end
section
set_option maxRecDepth 10000
theorem o_n0 {y1 y0 u u1 q r : Nat} (e : q * y1 + r = u) (hle : q * y0 ≤ r * 4294967296 + u1) (hgt : u * 4294967296 + u1 < (q + 1) * (y1 * 4294967296 + y0)) :
  (u * 4294967296 + u1) / (y1 * 4294967296 + y0) = q := by
 have h1 : q * (y1 * 4294967296 + y0) ≤ u * 4294967296 + u1 := by
  rw [Nat.mul_add, ← Nat.mul_assoc, ← e, Nat.add_mul]
  omega
 have hpos : 0 < y1 * 4294967296 + y0 := by
  rcases Nat.eq_zero_or_pos (y1 * 4294967296 + y0) with h | h
  ·rw [h] at hgt; omega
  ·exact h
 exact Nat.div_eq_of_lt_le h1 hgt
theorem lin (a r u u1 b z : Nat) (e : a + r = u) (hc : r * b + u1 < z) : u * b + u1 < a * b + z := by
 subst e; rw [Nat.add_mul]; omega
theorem o_n1 {y1 y0 u u1 q r : Nat} (e : q * y1 + r = u) (hu : u < y1 * 4294967296 + y0) (hu1 : u1 < 4294967296) (hc : 4294967296 ≤ q ∨ r * 4294967296 + u1 < q * y0) :
  0 < q ∧ (q - 1) * y1 + (r + y1) = u ∧ u * 4294967296 + u1 < (q - 1 + 1) * (y1 * 4294967296 + y0) := by
 have hq : 0 < q := by
  rcases Nat.eq_zero_or_pos q with h | h
  ·subst h; omega
  ·exact h
 have e1 : (q - 1) * y1 + y1 = q * y1 := by
  obtain ⟨k, rfl⟩ : ∃ k, q = k + 1 := ⟨q - 1, by omega⟩
  rw [Nat.add_sub_cancel, Nat.add_mul, Nat.one_mul]
 have e2 : q - 1 + 1 = q := by omega
 rw [e2]
 refine ⟨hq, by omega, ?_⟩
 rcases hc with hc | hc
 ·have h1 : (y1 * 4294967296 + y0) * 4294967296 ≤ (y1 * 4294967296 + y0) * q := Nat.mul_le_mul_left _ hc
  rw [Nat.mul_comm q]
  obtain ⟨p, hp⟩ : ∃ p, p = (y1 * 4294967296 + y0) * q := ⟨_, rfl⟩
  rw [← hp] at h1 ⊢
  clear hp e1
  omega
 ·rw [Nat.mul_add, ← Nat.mul_assoc]
  obtain ⟨a, ha⟩ : ∃ a, a = q * y1 := ⟨_, rfl⟩
  rw [← ha] at e ⊢
  exact lin a r u u1 _ _ e hc
theorem o_n2 {y1 y0 u q r : Nat} (e : q * y1 + r = u) (hu : u < y1 * 4294967296 + y0) (hy0 : y0 < 4294967296) (hr : 4294967296 ≤ r) (u1 : Nat) : q * y0 ≤ r * 4294967296 + u1 := by
 have hq : q < 4294967296 := by
  apply Nat.lt_of_not_le
  intro h
  have : 4294967296 * y1 ≤ q * y1 := Nat.mul_le_mul_right y1 h
  omega
 have : q * y0 ≤ 4294967295 * 4294967295 := Nat.mul_le_mul (by omega) (by omega)
 omega
theorem o_n3 {y1 y0 u u1 : Nat} (h1 : 0 < y1) (hu1 : u1 < 4294967296) : u * 4294967296 + u1 < (u / y1 + 1) * (y1 * 4294967296 + y0) := by
 have h := Nat.lt_mul_div_succ u h1
 rw [Nat.mul_comm] at h
 have h2 : (u / y1 + 1) * (y1 * 4294967296) ≤ (u / y1 + 1) * (y1 * 4294967296 + y0) := Nat.mul_le_mul_left _ (by omega)
 rw [← Nat.mul_assoc] at h2
 generalize (u / y1 + 1) * y1 = a at *
 omega

theorem halves' {y a b v0 q1 q0 : Nat} (hy : 0 < y) (h1 : a / y = q1) (h0 : ((a - q1 * y) * b + v0) / y = q0) :
  (a * b + v0) / y = q1 * b + q0 ∧ (a * b + v0) % y = (a - q1 * y) * b + v0 - q0 * y := by
 have a1 := Nat.div_add_mod a y
 have b1 := Nat.mod_lt a hy
 rw [h1, Nat.mul_comm] at a1
 obtain ⟨r1, hr1⟩ : ∃ r, r = a % y := ⟨_, rfl⟩
 rw [← hr1] at a1 b1
 have e1 : a - q1 * y = r1 := by omega
 rw [e1] at h0 ⊢
 have a0 := Nat.div_add_mod (r1 * b + v0) y
 have b0 := Nat.mod_lt (r1 * b + v0) hy
 rw [h0, Nat.mul_comm] at a0
 obtain ⟨r0, hr0⟩ : ∃ r, r = (r1 * b + v0) % y := ⟨_, rfl⟩
 rw [← hr0] at a0 b0
 have e0 : r1 * b + v0 - q0 * y = r0 := by omega
 rw [e0]
 have hN : a * b + v0 = (q1 * b + q0) * y + r0 := by
  have hp : q1 * b * y = q1 * y * b := Nat.mul_right_comm _ _ _
  rw [Nat.add_mul, hp, ← a1, Nat.add_mul]
  omega
 rw [hN]
 exact ⟨by rw [Nat.mul_comm, Nat.mul_add_div hy, Nat.div_eq_of_lt b0, Nat.add_zero], by rw [Nat.mul_comm, Nat.mul_add_mod]; exact Nat.mod_eq_of_lt b0⟩

theorem o_n4 {n y s : Nat} : n * 2 ^ s / (y * 2 ^ s) = n / y ∧ n * 2 ^ s % (y * 2 ^ s) / 2 ^ s = n % y := by
 have hp := Nat.two_pow_pos s
 refine ⟨Nat.mul_div_mul_right _ _ hp, ?_⟩
 rw [Nat.mul_mod_mul_right, Nat.mul_div_cancel _ hp]

theorem o_n5 {U D B P u1 d1 : Nat} (hB : 0 < B) (hP : 0 < P) (hU : U / P = u1) (hD : d1 * P ≤ D) (hd : 0 < d1) : U / D ≤ u1 / d1 := by
 rw [Nat.le_div_iff_mul_le hd]
 have hD0 : 0 < D := Nat.lt_of_lt_of_le (Nat.mul_pos hd hP) hD
 have h1 : U / D * D ≤ U := Nat.div_mul_le_self U D
 rw [← hU, Nat.le_div_iff_mul_le hP]
 calc U / D * d1 * P = U / D * (d1 * P) := Nat.mul_assoc _ _ _
  _ ≤ U / D * D := Nat.mul_le_mul_left _ hD
  _ ≤ U := h1

theorem o_n6 {U D g w P M : Nat} (hM : M = 18446744073709551616 * P) (hD : D < P) (hD0 : 0 < D) (hg : g ≤ 18446744073709551615) (hw : w < M) (e : w + g * D = U + M) :
  0 < g ∧ (M ≤ w + D → w + D - M + (g - 1) * D = U ∧ w + D - M < D ∧ U / D = g - 1 ∧ U % D = w + D - M) ∧ (w + D < M → w + D + (g - 1) * D = U + M ∧ P ≤ w + D) := by
 have hg0 : 0 < g := by
  rcases Nat.eq_zero_or_pos g with h | h
  ·subst h; omega
  ·exact h
 have e1 : (g - 1) * D + D = g * D := by
  obtain ⟨k, rfl⟩ : ∃ k, g = k + 1 := ⟨g - 1, by omega⟩
  rw [Nat.add_sub_cancel, Nat.add_mul, Nat.one_mul]
 have e2 : (g - 1) * D ≤ 18446744073709551614 * P := Nat.mul_le_mul (by omega) (by omega)
 obtain ⟨x, hx⟩ : ∃ x, x = (g - 1) * D := ⟨_, rfl⟩
 obtain ⟨y, hy⟩ : ∃ y, y = g * D := ⟨_, rfl⟩
 refine ⟨hg0, fun h => ?_, fun h => ?_⟩
 ·have h1 : w + D - M + (g - 1) * D = U := by rw [← hx] at e1 ⊢; rw [← hy] at e e1; clear hx hy e2; omega
  have h2 : w + D - M < D := by omega
  refine ⟨h1, h2, ?_, ?_⟩
  ·rw [← h1, Nat.add_mul_div_right _ _ hD0, Nat.div_eq_of_lt h2, Nat.zero_add]
  ·rw [← h1, Nat.add_mul_mod_self_right]; exact Nat.mod_eq_of_lt h2
 ·rw [← hx] at e1 e2 ⊢; rw [← hy] at e e1
  clear hx hy
  subst hM
  constructor
  ·omega
  ·omega
theorem o_n7 {U D g w : Nat} (hD0 : 0 < D) (hg : U / D ≤ g) (e : w + g * D = U) : U / D = g ∧ U % D = w := by
 have h : g ≤ U / D := by rw [Nat.le_div_iff_mul_le hD0]; omega
 have hq : U / D = g := Nat.le_antisymm hg h
 have := Nat.div_add_mod U D
 rw [hq, Nat.mul_comm] at this
 exact ⟨hq, by omega⟩

def shrL (k : Nat) : List Nat → List Nat
 | [] => []
 | x :: l => (x / 2 ^ k + l.getD 0 0 * 2 ^ (64 - k) % 18446744073709551616) :: shrL k l
theorem o_n8 (k : Nat) : ∀ l, (shrL k l).length = l.length
 | [] => rfl
 | x :: l => by simp [shrL, o_n8 k l]
theorem o_n9 : ∀ l : List Nat, small l → wval l % 18446744073709551616 = l.getD 0 0
 | [], _ => rfl
 | x :: l, h => by
  have := h x (by simp)
  simp only [wval, List.getD_cons_zero]
  omega
theorem o_na {k : Nat} (hk : k < 64) : ∀ l : List Nat, small l → wval (shrL k l) = wval l / 2 ^ k ∧ small (shrL k l)
 | [], _ => ⟨by simp [shrL, wval], by simp [shrL, small]⟩
 | x :: l, h => by
  have hl : small l := fun y hy => h y (by simp [hy])
  obtain ⟨h1, h2⟩ := o_na hk l hl
  have hx := h x (by simp)
  have hhd := o_n9 l hl
  have hB : (18446744073709551616 : Nat) = 2 ^ k * 2 ^ (64 - k) := by rw [← Nat.pow_add, show k + (64 - k) = 64 by omega]
  have hp := Nat.two_pow_pos k
  have hp' := Nat.two_pow_pos (64 - k)
  -- the part that comes from above
  have h3 : l.getD 0 0 * 2 ^ (64 - k) % 18446744073709551616 = wval l % 2 ^ k * 2 ^ (64 - k) := by
   rw [hB, Nat.mul_mod_mul_right, ← hhd]
   congr 1
   rw [hB, Nat.mod_mul_right_mod]
  have h4 : wval (x :: l) / 2 ^ k = x / 2 ^ k + 2 ^ (64 - k) * wval l := by
   rw [wval]
   conv => lhs; rw [hB]
   rw [Nat.mul_assoc, Nat.add_mul_div_left _ _ hp]
  have h5 : 2 ^ (64 - k) * wval l = 18446744073709551616 * (wval l / 2 ^ k) + wval l % 2 ^ k * 2 ^ (64 - k) := by
   conv => lhs; rw [← Nat.div_add_mod (wval l) (2 ^ k)]
   rw [Nat.mul_add, ← Nat.mul_assoc, Nat.mul_comm (2 ^ (64 - k)) (2 ^ k), ← hB, Nat.mul_comm (2 ^ (64 - k))]
  have h6 : x / 2 ^ k < 2 ^ (64 - k) := by
   rw [Nat.div_lt_iff_lt_mul hp, Nat.mul_comm, ← hB]; exact hx
  have h7 : wval l % 2 ^ k * 2 ^ (64 - k) + 2 ^ (64 - k) ≤ 18446744073709551616 := by
   have := Nat.mul_le_mul_right (2 ^ (64 - k)) (Nat.succ_le_of_lt (Nat.mod_lt (wval l) hp))
   rw [Nat.succ_mul, ← hB] at this
   exact this
  refine ⟨?_, ?_⟩
  ·rw [h4, h5, shrL, wval, h1, h3]
   omega
  ·intro y hy
   rw [shrL, List.mem_cons] at hy
   rcases hy with rfl | hy
   ·rw [h3]; omega
   ·exact h2 y hy
theorem o_nb : ∀ (q : Nat) (l : List Nat), small l → wval (l.drop q) = wval l / 18446744073709551616 ^ q
 | 0, l, _ => by simp
 | q + 1, [], _ => by simp [wval]
 | q + 1, x :: l, h => by
  have hx := h x (by simp)
  rw [List.drop_succ_cons, o_nb q l (fun y hy => h y (by simp [hy])), wval, Nat.pow_succ, Nat.mul_comm (18446744073709551616 ^ q), ← Nat.div_div_eq_div_mul]
  congr 1
  omega
end
section
open Go.RowKit
theorem o_nc : ∀ i : Nat, i < 256 → (([0, 1, 2, 2, 3, 3, 3, 3, 4, 4, 4, 4, 4, 4, 4, 4, 5, 5, 5, 5, 5, 5, 5, 5, 5, 5, 5, 5, 5, 5, 5, 5, 6, 6, 6, 6, 6, 6, 6, 6, 6, 6, 6, 6, 6, 6, 6, 6, 6, 6, 6, 6, 6, 6, 6, 6, 6, 6, 6, 6, 6, 6, 6, 6, 7, 7, 7, 7, 7, 7, 7, 7, 7, 7, 7, 7, 7, 7, 7, 7, 7, 7, 7, 7, 7, 7, 7, 7, 7, 7, 7, 7, 7, 7, 7, 7, 7, 7, 7, 7, 7, 7, 7, 7, 7, 7, 7, 7, 7, 7, 7, 7, 7, 7, 7, 7, 7, 7, 7, 7, 7, 7, 7, 7, 7, 7, 7, 7, 8, 8, 8, 8, 8, 8, 8, 8, 8, 8, 8, 8, 8, 8, 8, 8, 8, 8, 8, 8, 8, 8, 8, 8, 8, 8, 8, 8, 8, 8, 8, 8, 8, 8, 8, 8, 8, 8, 8, 8, 8, 8, 8, 8, 8, 8, 8, 8, 8, 8, 8, 8, 8, 8, 8, 8, 8, 8, 8, 8, 8, 8, 8, 8, 8, 8, 8, 8, 8, 8, 8, 8, 8, 8, 8, 8, 8, 8, 8, 8, 8, 8, 8, 8, 8, 8, 8, 8, 8, 8, 8, 8, 8, 8, 8, 8, 8, 8, 8, 8, 8, 8, 8, 8, 8, 8, 8, 8, 8, 8, 8, 8, 8, 8, 8, 8, 8, 8, 8, 8, 8, 8, 8, 8, 8, 8, 8, 8] : List UInt8)[i]?.getD 0).toNat = bitsN i := by
 have h : ((List.range 256).all fun i => (([0, 1, 2, 2, 3, 3, 3, 3, 4, 4, 4, 4, 4, 4, 4, 4, 5, 5, 5, 5, 5, 5, 5, 5, 5, 5, 5, 5, 5, 5, 5, 5, 6, 6, 6, 6, 6, 6, 6, 6, 6, 6, 6, 6, 6, 6, 6, 6, 6, 6, 6, 6, 6, 6, 6, 6, 6, 6, 6, 6, 6, 6, 6, 6, 7, 7, 7, 7, 7, 7, 7, 7, 7, 7, 7, 7, 7, 7, 7, 7, 7, 7, 7, 7, 7, 7, 7, 7, 7, 7, 7, 7, 7, 7, 7, 7, 7, 7, 7, 7, 7, 7, 7, 7, 7, 7, 7, 7, 7, 7, 7, 7, 7, 7, 7, 7, 7, 7, 7, 7, 7, 7, 7, 7, 7, 7, 7, 7, 8, 8, 8, 8, 8, 8, 8, 8, 8, 8, 8, 8, 8, 8, 8, 8, 8, 8, 8, 8, 8, 8, 8, 8, 8, 8, 8, 8, 8, 8, 8, 8, 8, 8, 8, 8, 8, 8, 8, 8, 8, 8, 8, 8, 8, 8, 8, 8, 8, 8, 8, 8, 8, 8, 8, 8, 8, 8, 8, 8, 8, 8, 8, 8, 8, 8, 8, 8, 8, 8, 8, 8, 8, 8, 8, 8, 8, 8, 8, 8, 8, 8, 8, 8, 8, 8, 8, 8, 8, 8, 8, 8, 8, 8, 8, 8, 8, 8, 8, 8, 8, 8, 8, 8, 8, 8, 8, 8, 8, 8, 8, 8, 8, 8, 8, 8, 8, 8, 8, 8, 8, 8, 8, 8, 8, 8, 8, 8] : List UInt8)[i]?.getD 0).toNat == bitsN i) = true := by kernel_rfl
 intro i hi
 have := List.all_eq_true.1 h i (List.mem_range.2 hi)
 exact eq_of_beq this

set_option maxHeartbeats 1000000 in
theorem o_nd (x : Nat) (hx : x < 18446744073709551616) : Eqn Tryz.prog o_ga [.d (.int .u64 x)] [] (.d (.int .i64 (bitsN x))) [] := by
 refine Eqn.pure o_gc (o_58 _) ?_
 simp only [o_gb]
 obtain ⟨x1, n1, h1, hx1, hn1, e1⟩ : ∃ x1 n1 : Nat, (x1, n1) = (if 4294967296 ≤ x then (x / 4294967296, 32) else (x, 0)) ∧ x1 < 4294967296 ∧ n1 ≤ 32 ∧ bitsN x = n1 + bitsN x1 := by
  by_cases h : 4294967296 ≤ x
  ·exact ⟨x / 4294967296, 32, by rw [if_pos h], by omega, by omega, o_mw (k := 32) h⟩
  ·exact ⟨x, 0, by rw [if_neg h], by omega, by omega, by omega⟩
 obtain ⟨x2, n2, h2, hx2, hn2, e2⟩ : ∃ x2 n2 : Nat, (x2, n2) = (if 65536 ≤ x1 then (x1 / 65536, n1 + 16) else (x1, n1)) ∧ x2 < 65536 ∧ n2 ≤ 48 ∧ bitsN x = n2 + bitsN x2 := by
  by_cases h : 65536 ≤ x1
  ·exact ⟨x1 / 65536, n1 + 16, by rw [if_pos h], by omega, by omega, by have := o_mw (k := 16) h; rw [e1, this]; simp; omega⟩
  ·exact ⟨x1, n1, by rw [if_neg h], by omega, by omega, by omega⟩
 obtain ⟨x3, n3, h3, hx3, hn3, e3⟩ : ∃ x3 n3 : Nat, (x3, n3) = (if 256 ≤ x2 then (x2 / 256, n2 + 8) else (x2, n2)) ∧ x3 < 256 ∧ n3 ≤ 56 ∧ bitsN x = n3 + bitsN x3 := by
  by_cases h : 256 ≤ x2
  ·exact ⟨x2 / 256, n2 + 8, by rw [if_pos h], by omega, by omega, by have := o_mw (k := 8) h; rw [e2, this]; simp; omega⟩
  ·exact ⟨x2, n2, by rw [if_neg h], by omega, by omega, by omega⟩
 rw [e3]
 clear e1 e2 e3
 refine AW.seq (AW.reg mix ?_)
 (simp -implicitDefEqProofs; try simp (disch := omega) only [w64, wu64])
 refine AW.cut 0 [(0, .d (.int .u64 x1)), (2, .d (.int .i64 n1))] [] (by simp) (by simp) ?_ ?_
 ·have hd : (x : Int) / 4294967296 = (x / 4294967296 : Nat) := rfl
  refine G0 ?_; try with_reducible exact tt
  refine AW.cond rfl (fun h => ?_) (fun h => ?_)
  ·rw [if_pos (by simp at h; omega)] at h1
   cases h1
   generalize x / 4294967296 = q at *
   refine G1 hd ?_; try with_reducible exact tt
  ·rw [if_neg (by simp at h; omega)] at h1
   cases h1
   refine G0 ?_; try with_reducible exact tt
 clear h1 hx
 simp
 refine AW.cut 0 [(0, .d (.int .u64 x2)), (2, .d (.int .i64 n2))] [] (by simp) (by simp) ?_ ?_
 ·have hd : (x1 : Int) / 65536 = (x1 / 65536 : Nat) := rfl
  have ew : IntKind.i64.wrap ((n1 : Int) + 16) = ((n1 + 16 : Nat) : Int) := w64 (by omega) (by omega)
  refine G0 ?_; try with_reducible exact tt
  refine AW.cond rfl (fun h => ?_) (fun h => ?_)
  ·rw [if_pos (by simp at h; omega)] at h2
   cases h2
   generalize x1 / 65536 = q at *
   refine G1 (fs hd ew) ?_; try with_reducible exact tt
  ·rw [if_neg (by simp at h; omega)] at h2
   cases h2
   refine G0 ?_; try with_reducible exact tt
 clear h2 hx1 hn1
 simp
 refine AW.cut 0 [(0, .d (.int .u64 x3)), (2, .d (.int .i64 n3))] [] (by simp) (by simp) ?_ ?_
 ·have hd : (x2 : Int) / 256 = (x2 / 256 : Nat) := rfl
  have ew : IntKind.i64.wrap ((n2 : Int) + 8) = ((n2 + 8 : Nat) : Int) := w64 (by omega) (by omega)
  refine G0 ?_; try with_reducible exact tt
  refine AW.cond rfl (fun h => ?_) (fun h => ?_)
  ·rw [if_pos (by simp at h; omega)] at h3
   cases h3
   generalize x2 / 256 = q at *
   refine G1 (fs hd ew) ?_; try with_reducible exact tt
  ·rw [if_neg (by simp at h; omega)] at h3
   cases h3
   refine G0 ?_; try with_reducible exact tt
 clear h3 hx2 hn2
 simp
 have ew1 : IntKind.u8.wrap (x3 : Int) = x3 := by rw [show IntKind.u8.wrap (x3 : Int) = (x3 : Int) % 256 from rfl]; omega
 have hb := o_nc x3 hx3
 have hB : bitsN x3 ≤ 8 := o_mv (by omega)
 have ew2 : IntKind.i64.wrap (bitsN x3 : Int) = bitsN x3 := w64 (by omega) (by omega)
 have ew3 : IntKind.i64.wrap ((n3 : Int) + bitsN x3) = (n3 : Int) + bitsN x3 := w64 (by omega) (by omega)
 refine AW.seq (AW.reg mix ?_)
 simp [ew1, hb, ew2, ew3]
 refine need.of (Nat.lt_of_lt_of_le hx3 (by decide)) ?_
 refine G0 ?_; try with_reducible exact tt

theorem o_ne (x : Nat) (hx : x < 18446744073709551616) : Eqn Tryz.prog o_h1 [.d (.int .u64 x)] [] (.d (.int .i64 (64 - bitsN x : Nat))) [] := by
 refine Eqn.pure o_h3 (o_58 _) ?_
 simp only [o_h2]
 have hB : bitsN x ≤ 64 := o_mv (by omega)
 refine G0 ?_; try with_reducible exact tt
 refine CallS.pu (o_nd x hx) (R0 ?_); try with_reducible exact tt
 exact Sub1.int (by omega)

theorem o_nf {l : List Nat} {x : Nat} (hs : small l) (h0 : 0 < x) : bitsN (wval (l ++ [x])) = 64 * l.length + bitsN x := by
 have hp : (18446744073709551616 : Nat) ^ l.length = 2 ^ (64 * l.length) := by rw [show (18446744073709551616 : Nat) = 2 ^ 64 by rfl, ← Nat.pow_mul]
 have hlt := o_jo hs
 have hv : wval (l ++ [x]) = wval l + 2 ^ (64 * l.length) * x := by rw [o_jm, hp]; simp [wval]
 rw [hp] at hlt
 rw [hv, o_mw (k := 64 * l.length) (by have := Nat.le_mul_of_pos_right (2 ^ (64 * l.length)) h0; omega), Nat.add_mul_div_left _ _ (Nat.two_pow_pos _), Nat.div_eq_of_lt hlt, Nat.zero_add]

theorem o_ng (n : Nat) (hn : size n ≤ 1000000) : Eqn Tryz.prog o_fj [.d (.agg [natW n])] [] (.d (.int .i64 (bitsN n))) [] := by
 refine Eqn.pure o_fl (o_58 _) ?_
 simp only [o_fk, natW, W]
 unfold size at hn
 have hs := o_kk n
 have ht := o_kl n
 have hv := o_kj n
 generalize words n = ws at *
 rcases List.eq_nil_or_concat ws with rfl | ⟨l, x, rfl⟩
 ·refine G0 ?_; try with_reducible exact tt
  refine AW.cond rfl (fun h => ?_) (fun h => ?_)
  ·refine G0 ?_; try with_reducible exact tt
   rw [← hv]
   exact Sub1.refl _
  ·simp at h
 ·rw [List.concat_eq_append] at *
  have hx0 : 0 < x := by
   have := ht l.length (by simp)
   simp [List.getD] at this
   omega
  have hx : x < 18446744073709551616 := hs x (by simp)
  have hb := o_nf (l := l) (x := x) (fun y hy => hs y (by simp [hy])) hx0
  rw [hv] at hb
  have hB : bitsN x ≤ 64 := o_mv (by omega)
  have hll : l.length ≤ 1000000 := by simp at hn; omega
  have e1 : IntKind.i64.wrap ((l.length : Int) + 1 - 1) = (l.length : Int) := by rw [Int.add_sub_cancel]; exact w64 (by omega) (by omega)
  have e2 : IntKind.i64.wrap ((64 : Int) * l.length) = ((64 * l.length : Nat) : Int) := w64 (by omega) (by omega)
  have e0 : IntKind.i64.wrap (l.length : Int) = (l.length : Int) := w64 (by omega) (by omega)
  have hne : ¬ (l.length : Int) + 1 = 0 := by omega
  refine G1 (fs hne (fs e1 (fs e2 e0))) ?_; try with_reducible exact tt
  refine AW.cond rfl (fun h => ?_) (fun h => ?_)
  ·simp at h
   omega
  rw [hb]
  have e3 : IntKind.i64.wrap (((64 * l.length : Nat) : Int) + bitsN x) = ((64 * l.length + bitsN x : Nat) : Int) := w64 (by omega) (by omega)
  generalize 64 * l.length = q at *
  refine G1 (fs hne (fs e1 (fs e2 e0))) ?_; try with_reducible exact tt
  refine CallS.pu (o_nd x hx) (R1 e3 ?_); try with_reducible exact tt

theorem o_nh (n : Nat) (l : List D) (hl : l.length = n) (h0 : 0 < n) (hn : n ≤ 4000000000) : Eqn Tryz.prog o_fm [.d (.sl n l)] [] (.own 0 1 n) [⟨194, l.map .d⟩] := by
 refine Eqn.newX o_fo rfl (o_5g _) (fun n => rfl) ?_
 simp only [o_fn]
 refine G1 h0 ?_; try with_reducible exact tt
 refine AW.cond rfl (fun h => ?_) (fun h => ?_)
 ·simp at h
 ·refine G0 ?_; try with_reducible exact tt
  have h1 : ¬ n = 0 := by omega
  simp [h1, hl]
  refine need.of (by omega) ?_
  refine G0 ?_; try with_reducible exact tt
  exact ⟨0, Sub1.refl _, _, rfl, rfl, Subs.refl _⟩

def shrI (k : Nat) (A : List Nat) (i : Nat) : List Nat := (shrL k A).take i ++ A.drop i
theorem o_ni (k : Nat) : ∀ (A : List Nat) (i : Nat), i < A.length → (shrL k A).getD i 0 = A.getD i 0 / 2 ^ k + A.getD (i + 1) 0 * 2 ^ (64 - k) % 18446744073709551616
 | [], i, h => by simp at h
 | x :: l, 0, h => by simp [shrL]
 | x :: l, i + 1, h => by
  have := o_ni k l i (by simpa using h)
  simpa [shrL] using this
theorem o_nj (k : Nat) (A : List Nat) (i : Nat) (h : i ≤ A.length) : (shrI k A i).length = A.length := by
 rw [shrI, List.length_append, List.length_take, o_n8, List.length_drop]; omega
theorem o_nk (k : Nat) (A : List Nat) (i j : Nat) (h : i ≤ j) (hj : j < A.length) : (shrI k A i)[j]? = some (A.getD j 0) := by
 rw [shrI, List.getElem?_append_right (by rw [List.length_take, o_n8]; omega), List.length_take, o_n8, List.getElem?_drop, show i + (j - min i A.length) = j by omega]
 simp [List.getD, hj]
theorem o_nl (k : Nat) (A : List Nat) (i : Nat) (h : i < A.length) (y : Nat) (hy : y = (shrL k A).getD i 0) : (shrI k A i).set i y = shrI k A (i + 1) := by
 have hi : ((shrL k A).take i).length = i := by rw [List.length_take, o_n8]; omega
 rw [shrI, shrI, List.set_append_right _ _ (by omega), hi, Nat.sub_self, o_jp _ _ (by rw [o_n8]; exact h), ← hy, List.append_assoc]
 congr 1
 rw [List.drop_eq_getElem_cons h]
 rfl
theorem o_nm (k : Nat) (A : List Nat) : shrI k A A.length = shrL k A := by
 rw [shrI, List.drop_length, List.append_nil, List.take_of_length_le (by rw [o_n8]; omega)]

theorem o_nn {k x y : Nat} (hk : k < 64) (hx : x < 18446744073709551616) : x / 2 ^ k ||| (y * 2 ^ (64 - k) % 18446744073709551616) = x / 2 ^ k + y * 2 ^ (64 - k) % 18446744073709551616 := by
 have hB : (18446744073709551616 : Nat) = 2 ^ k * 2 ^ (64 - k) := by rw [← Nat.pow_add, show k + (64 - k) = 64 by omega]
 have h6 : x / 2 ^ k < 2 ^ (64 - k) := by
  rw [Nat.div_lt_iff_lt_mul (Nat.two_pow_pos k), Nat.mul_comm, ← hB]; exact hx
 have e : y * 2 ^ (64 - k) % 18446744073709551616 = 2 ^ (64 - k) * (y % 2 ^ k) := by rw [hB, Nat.mul_mod_mul_right, Nat.mul_comm]
 rw [e, Nat.or_comm, ← Nat.two_pow_add_eq_or_of_lt h6, Nat.add_comm]

set_option maxHeartbeats 2000000 in
theorem o_no (a n : Nat) (ha : size a ≤ 1000000) (hn : n ≤ 1000000000) : Eqn Tryz.prog o_hm [.d (.agg [natW a]), .d (.int .i64 n)] [] (.d (.agg [natW (a / 2 ^ n)])) [] := by
 refine Eqn.pure o_ho (o_58 _) ?_
 simp only [o_hn]
 rw [show natW a = .sl (words a).length ((words a).map fun x : Nat => .int .u64 x) from rfl]
 unfold size at ha
 have hs := o_kk a
 have hv := o_kj a
 generalize words a = ws at *
 have hm : max 0 (n : Int) = n := by omega
 have hq : (n : Int) / 64 = (n / 64 : Nat) := rfl
 have hr : (n : Int).tmod 64 = (n % 64 : Nat) := by rw [Int.tmod_eq_emod_of_nonneg (by omega)]; rfl
 have hval : wval (shrL (n % 64) (ws.drop (n / 64))) = a / 2 ^ n ∧ small (shrL (n % 64) (ws.drop (n / 64))) := by
  obtain ⟨h1, h2⟩ := o_na (k := n % 64) (by omega) (ws.drop (n / 64)) (fun x hx => hs x (List.mem_of_mem_drop hx))
  refine ⟨?_, h2⟩
  rw [h1, o_nb _ _ hs, hv, show (18446744073709551616 : Nat) = 2 ^ 64 by rfl, ← Nat.pow_mul, Nat.div_div_eq_div_mul, ← Nat.pow_add, Nat.div_add_mod]
 have hmk : n % 64 < 64 := by omega
 have hqn : n / 64 ≤ n := Nat.div_le_self _ _
 generalize hk : n % 64 = k at *
 generalize n / 64 = q at *
 refine G1 (fs hm hq) ?_; try with_reducible exact tt
 refine AW.cond rfl (fun h => ?_) (fun h => ?_)
 ·have hlen : ws.length ≤ q := by simp at h; omega
  refine G0 ?_; try with_reducible exact tt
  rw [List.drop_of_length_le hlen] at hval
  rw [← hval.1]
  exact Sub1.nat0
 ·have hlt : q < ws.length := by simp at h; omega
  have hlt' : (q : Int) < ws.length := by omega
  have hb1 : ((ws.length : Int) - q).toNat = (ws.drop q).length := by rw [List.length_drop]; omega
  have hbp : 0 < (ws.drop q).length ∧ (ws.drop q).length ≤ 1000000 := by rw [List.length_drop]; omega
  have hsB : small (ws.drop q) := fun x hx => hs x (List.mem_of_mem_drop hx)
  have htk : (V.d (.sl ((ws.length : Int) - q).toNat (((ws.map fun x : Nat => D.int .u64 x).drop ((q : Int)).toNat).take ((ws.length : Int) - q).toNat)) : V) = .d (.sl (ws.drop q).length ((ws.drop q).map fun x : Nat => D.int .u64 x)) := by
   rw [hb1, Int.toNat_natCast, ← List.map_drop, List.take_of_length_le (by simp)]
  refine G1 (fs hm (fs hq hlt')) ?_; try with_reducible exact tt
  generalize hB : ws.drop q = B at *
  refine CallS.newX (o_nh B.length (B.map fun x : Nat => .int .u64 x) (by simp) hbp.1 (by omega)) (o_5g _) rfl (fun _ => rfl) (Subs.of (by rw [htk])) ?_
  rw [show ((B.map fun x : Nat => D.int .u64 x).map V.d) = U (shrI k B 0) by simp [U, shrI]]
  simp
  refine G1 hr ?_; try with_reducible exact tt
  clear htk hb1 hv hs ha hB hlt hlt'
  refine AW.loopT (α := Nat) 3 (fun i => [(6, .d (.int .i64 (i : Int)))]) (fun i => [(2, ⟨194, U (shrI k B i)⟩)]) (fun i => i ≤ B.length) (fun i => B.length - i) 0 ?_ ?_ (Nat.zero_le _) ?_ ?_ ?_
  ·simp
  ·simp
  ·simp
  ·simp
  rintro i hi
  simp
  by_cases h : i = B.length
  ·subst h
   refine G0 ?_; try with_reducible exact tt
   refine AW.cond rfl (fun h => ?_) (fun h => ?_)
   ·simp at h
   refine AW.exit ?_
   (try (simp -implicitDefEqProofs; try simp (disch := omega) only [w64, wu64]))
   rw [o_nm]
   have hl : (shrL k B).length = B.length := o_n8 k B
   have hvw : natW (a / 2 ^ n) = natW (wval (shrL k B)) := by rw [hval.1]
   rw [hvw]
   have hsm := hval.2
   generalize shrL k B = r at hl hsm ⊢
   have hcell : U r = (r.map fun x : Nat => D.int .u64 x).map V.d := by simp [U]
   rw [hcell]
   refine AW.freeze 2 1 ⟨194, _⟩ (r.map fun x : Nat => .int .u64 x) (by rfl) (by rfl) ?_
   simp [← hl, List.take_of_length_le]
   refine G0 ?_; try with_reducible exact tt
   refine CallS.pu (o_ks r hsm (by omega)) (R0 ?_); try with_reducible exact tt
  ·have hi' : i < B.length := by omega
   have hp : (i : Int) < B.length := by omega
   have hxB : B.getD i 0 < 18446744073709551616 := hsB.getD i
   have hset : ∀ z : Nat, z = (shrL k B).getD i 0 → (U (shrI k B i)).set i (.d (.int .u64 z)) = U (shrI k B (i + 1)) := fun z hz => by
    rw [← o_nl k B i hi' z hz, U, U, List.map_set]
   have hg := o_ni k B i hi'
   have hl : (U (shrI k B i)).length = B.length := by simp [U, o_nj k B i hi]
   have hq1 : (U (shrI k B i))[i]? = some (.d (.int .u64 (B.getD i 0 : Nat))) := by
    rw [U, List.getElem?_map, o_nk k B i i (Nat.le_refl _) hi']; rfl
   have hq2 : i + 1 < B.length → (U (shrI k B i))[i + 1]? = some (.d (.int .u64 (B.getD (i + 1) 0 : Nat))) := fun h => by
    rw [U, List.getElem?_map, o_nk k B i (i + 1) (by omega) h]; rfl
   have hor := o_nn (k := k) (x := B.getD i 0) (y := B.getD (i + 1) 0) hmk hxB
   rw [← hg] at hor
   have hu : ((B.getD i 0 : Nat) : Int) / 2 ^ k = ((B.getD i 0 / 2 ^ k : Nat) : Int) := by rw [Int.natCast_ediv, Int.natCast_pow]; rfl
   have hule : B.getD i 0 / 2 ^ k ≤ B.getD i 0 := Nat.div_le_self _ _
   have hw : IntKind.u64.wrap (((B.getD (i + 1) 0 : Nat) : Int) * 2 ^ (64 - k)) = ((B.getD (i + 1) 0 * 2 ^ (64 - k) % 18446744073709551616 : Nat) : Int) := by
    rw [IntKind.wrap_u64, Int.natCast_emod, Int.natCast_mul, Int.natCast_pow]; rfl
   have hwl : B.getD (i + 1) 0 * 2 ^ (64 - k) % 18446744073709551616 < 18446744073709551616 := Nat.mod_lt _ (by decide)
   have hlast : ¬ i + 1 < B.length → B.getD i 0 / 2 ^ k = (shrL k B).getD i 0 := fun h => by
    rw [hg, o_l0 h]; simp
   have hls : (shrL k B).length = B.length := o_n8 k B
   generalize B.getD i 0 / 2 ^ k = u at *
   generalize B.getD i 0 = x at *
   generalize B.getD (i + 1) 0 * 2 ^ (64 - k) % 18446744073709551616 = t at *
   generalize B.getD (i + 1) 0 = y at *
   have hb := bits_or_u64_nat u t (by omega) hwl
   rw [hor] at hb
   have hz := hset _ rfl
   generalize (shrL k B).getD i 0 = z at *
   generalize U (shrI k B i) = cm at *
   have e1 : IntKind.i64.wrap ((i : Int) + 1) = (i : Int) + 1 := w64 (by omega) (by omega)
   have e2 : IntKind.i64.wrap ((64 : Int) - k) = (64 : Int) - k := w64 (by omega) (by omega)
   have hn : ((64 : Int) - k).toNat = 64 - k := by omega
   have e3 : (((i : Int) + 1)).toNat = i + 1 := by omega
   have hkl : (k : Int) ≤ 64 := by omega
   have hg1 : ∀ h, cm[i]'h = .d (.int .u64 x) := fun h => by
    have := List.getElem?_eq_getElem h
    rw [hq1] at this
    exact (Option.some.inj this).symm
   have hg2 : ∀ h, cm[i + 1]'h = .d (.int .u64 y) := fun h => by
    have := List.getElem?_eq_getElem h
    rw [hq2 (by omega)] at this
    exact (Option.some.inj this).symm
   refine G1 (fs hi' hp) ?_; try with_reducible exact tt
   refine AW.cond rfl (fun h => ?_) (fun h => ?_)
   ·by_cases hl1 : i + 1 < B.length
    ·have hlp : (i : Int) + 1 < B.length := by omega
     refine G1 (fs hi' (fs hp (fs hl (fs hg1 (fs hu (fs e1 hlp)))))) ?_; try with_reducible exact tt
     refine AW.cond rfl (fun h => ?_) (fun h => ?_)
     ·have hne : ¬ i = i + 1 := by omega
      have h64 : (64 - k : Int) ≤ 64 := by omega
      refine G1 (fs hi' (fs hp (fs hl (fs hg1 (fs hg2 (fs hu (fs e1 (fs hlp (fs hl1 (fs e2 (fs hn (fs e3 (fs hne (fs hw (fs hb hz))))))))))))))) ?_; try with_reducible exact tt
      exact ⟨i + 1, by omega, by omega, by simp, by simp⟩
     ·simp at h
    ·have hlp : ¬ (i : Int) + 1 < B.length := by omega
     refine G1 (fs hi' (fs hp (fs hl (fs hg1 (fs hu (fs e1 hlp)))))) ?_; try with_reducible exact tt
     refine AW.cond rfl (fun h => ?_) (fun h => ?_)
     ·simp at h
     ·have := hlast hl1
      subst this
      refine G1 e1 ?_; try with_reducible exact tt
      refine ⟨i + 1, by omega, by omega, by simp, ?_⟩
      rw [hset u rfl]
      exact Subs.refl _
   ·simp at h
end
section
open Go.RowKit
theorem o_np (b : Bool) : Eqn Tryz.prog o_hy [.d (.bool b)] [] (.d (.int .i64 (if b then 1 else 0))) [] := by
 refine Eqn.pure o_i0 Plain.ok ?_
 simp only [o_hz]
 cases b
 ·refine A00 ?_; try with_reducible exact tt
 ·refine A00 ?_; try with_reducible exact tt
theorem o_nq (b : Nat) (hb : b ≤ 64) : Eqn Tryz.prog o_hv [.d (.int .i64 b)] [] (.d (.int .i64 (b * 78913 / 262144 : Nat))) [] := by
 refine Eqn.pure o_hx Plain.ok ?_
 simp only [o_hw]
 have e1 : IntKind.i64.wrap ((b : Int) * 78913) = ((b * 78913 : Nat) : Int) := by rw [w64 (by omega) (by omega)]; omega
 have e2 : ((b * 78913 : Nat) : Int) / 262144 = ((b * 78913 / 262144 : Nat) : Int) := by omega
 refine A10 (fs e1 e2) ?_; try with_reducible exact tt
def pow10V : List D := [.int .u64 1, .int .u64 10, .int .u64 100, .int .u64 1000, .int .u64 10000, .int .u64 100000, .int .u64 1000000, .int .u64 10000000, .int .u64 100000000, .int .u64 1000000000, .int .u64 10000000000, .int .u64 100000000000, .int .u64 1000000000000, .int .u64 10000000000000, .int .u64 100000000000000, .int .u64 1000000000000000, .int .u64 10000000000000000, .int .u64 100000000000000000, .int .u64 1000000000000000000, .int .u64 10000000000000000000]
theorem o_nr : pow10V.length = 20 := rfl
theorem o_ns : pow10V = (List.range 20).map fun k : Nat => D.int .u64 ((10 ^ k : Nat) : Int) := by kernel_rfl
theorem o_nt : ∀ (k : Nat) (h : k < pow10V.length), pow10V[k]'h = D.int .u64 ((10 ^ k : Nat) : Int) := by
 rw [o_ns]
 intro k h
 simp
theorem o_nu (n : Nat) (h0 : 0 < n) (h1 : n < 18446744073709551616) : Eqn Tryz.prog o_h7 [.d (.int .u64 n)] [] (.d (.int .i64 (ndig n : Nat))) [] := by
 refine Eqn.pure o_h9 Plain.ok ?_
 have hb : bitsN n ≤ 64 := o_mv (by omega)
 have hl := o_nd n h1
 have hlt := o_mu n
 have hb0 : 0 < bitsN n := by
  rcases Nat.eq_zero_or_pos (bitsN n) with h | h
  ·rw [h] at hlt; simp at hlt; omega
  ·exact h
 have hge : 2 ^ (bitsN n - 1) ≤ n := by
  rcases Nat.lt_or_ge n (2 ^ (bitsN n - 1)) with h | h
  ·have := o_mv h; omega
  ·exact h
 obtain ⟨g1, g2⟩ := o_ms n (bitsN n) hge hlt hb0 hb
 have hlo := o_nq (bitsN n) hb
 generalize bitsN n * 78913 / 262144 = k at *
 have hbo := o_np (decide (10 ^ k ≤ n))
 have hgt := o_nt k
 obtain ⟨t, ht⟩ : ∃ t, t = 10 ^ k := ⟨_, rfl⟩
 rw [← ht] at hgt g2 hbo
 have hkl : k < 20 := by omega
 have hki : (k : Int) < 20 := by omega
 have hkl2 : k < pow10V.length := by rw [o_nr]; omega
 have hge2 : decide ((t : Int) ≤ n) = decide (t ≤ n) := by rw [decide_eq_decide]; omega
 simp only [o_h8]
 rw [show [D.int .u64 1, .int .u64 10, .int .u64 100, .int .u64 1000, .int .u64 10000, .int .u64 100000, .int .u64 1000000, .int .u64 10000000, .int .u64 100000000, .int .u64 1000000000, .int .u64 10000000000, .int .u64 100000000000, .int .u64 1000000000000, .int .u64 10000000000000, .int .u64 100000000000000, .int .u64 1000000000000000, .int .u64 10000000000000000, .int .u64 100000000000000000, .int .u64 1000000000000000000, .int .u64 10000000000000000000] = pow10V from rfl]
 generalize pow10V = PV at *
 refine A00 ?_; try with_reducible exact tt
 refine CallS.pu (hl) (R0 ?_); try with_reducible exact tt
 refine CallS.pu (hlo) (R1 (fs hkl (fs hki (fs hkl2 (fs hgt hge2)))) ?_); try with_reducible exact tt
 refine CallS.pu (hbo) (R0 ?_); try with_reducible exact tt
 refine Sub1.int ?_
 rw [g2]
 by_cases h : t ≤ n
 ·simp only [h, if_true]; omega
 ·simp only [h, if_false]; omega
end
section
theorem u32N (x : Nat) (h : x < 4294967296) : IntKind.u32.wrap (x : Int) = x := by rw [IntKind.wrap_u32]; omega
theorem o_nv (u k : Nat) (h0 : 0 < k) (h : k ≤ 4294967296) : IntKind.u32.wrap ((u : Int).tmod k) = ((u % k : Nat) : Int) := by
 rw [Int.tmod_eq_emod_of_nonneg (by omega), ← Int.natCast_emod]
 exact u32N _ (Nat.lt_of_lt_of_le (Nat.mod_lt _ h0) h)
theorem o_nw (x k : Nat) (h : x < 4294967296) : IntKind.u32.wrap ((x : Int) / k) = ((x / k : Nat) : Int) := by
 rw [← Int.natCast_ediv]
 exact u32N _ (Nat.lt_of_le_of_lt (Nat.div_le_self _ _) h)
theorem o_nx (x k : Nat) (h : x < 18446744073709551616) : IntKind.u64.wrap ((x : Int) / k) = ((x / k : Nat) : Int) := by
 rw [← Int.natCast_ediv]
 have := Nat.div_le_self x k
 generalize x / k = q at *
 rw [IntKind.wrap_u64]; omega
theorem modN (x k : Nat) : (x : Int).tmod k = ((x % k : Nat) : Int) := by rw [Int.tmod_eq_emod_of_nonneg (by omega), ← Int.natCast_emod]
structure D4 (x a b : Nat) : Prop where
 da : IntKind.u32.wrap ((x : Int) / 100) = a
 mb : (x : Int).tmod 100 = b
 la : a < 100
 lb : b < 100
 dig : ∀ u, padN 4 (u * 10000 + x) = [48 + a / 10, 48 + a % 10, 48 + b / 10, 48 + b % 10]
theorem d4 (x : Nat) (hx : x < 10000) : ∃ a b, D4 x a b := by
 refine ⟨x / 100, x % 100, o_nw x 100 (by omega), modN x 100, by omega, by omega, fun u => ?_⟩
 rw [o_mc]
 congr 1
 ·omega
 congr 1
 ·omega
 congr 1
 ·omega
 congr 1
 omega
structure D8 (u x5 x6 x7 : Nat) : Prop where
 m5 : IntKind.u32.wrap ((u : Int).tmod 100000000) = x5
 d6 : IntKind.u32.wrap ((x5 : Int) / 10000) = x6
 m7 : (x5 : Int).tmod 10000 = x7
 l6 : x6 < 10000
 l7 : x7 < 10000
 dig : padN 8 u = padN 4 (u / 100000000 * 10000 + x6) ++ padN 4 (u / 10000 * 10000 + x7)
theorem d8 (u : Nat) : ∃ x5 x6 x7, D8 u x5 x6 x7 := by
 refine ⟨u % 100000000, u % 100000000 / 10000, u % 100000000 % 10000, o_nv u 100000000 (by omega) (by omega), o_nw _ 10000 (by omega), modN _ 10000, by omega, by omega, ?_⟩
 rw [show (8 : Nat) = 4 + 4 from rfl, o_mb, show u / 100000000 * 10000 + u % 100000000 / 10000 = u / 10000 by omega, show u / 10000 * 10000 + u % 100000000 % 10000 = u by omega]
structure Lk (l : ByteArray) (x y z c e : Nat) : Prop where
 wy : IntKind.u32.wrap ((x : Int) * 2) = y
 wz : IntKind.u32.wrap ((y : Int) + 1) = z
 gy : ∀ h, (l.data[y]'h).toNat = c
 gz : ∀ h, (l.data[z]'h).toNat = e
 ny : y < l.size
 nz : z < l.size
 hc : c = 48 + x / 10
 he : e = 48 + x % 10
theorem lk (l : ByteArray) (hl : l.size = 200) (h : ∀ x, x < 100 → (l.data.toList.getD (x * 2) 0).toNat = 48 + x / 10 ∧ (l.data.toList.getD (x * 2 + 1) 0).toNat = 48 + x % 10) (x : Nat) (hx : x < 100) : ∃ y z c e, Lk l x y z c e :=
 ⟨x * 2, x * 2 + 1, 48 + x / 10, 48 + x % 10, by rw [IntKind.wrap_u32]; omega, by rw [IntKind.wrap_u32]; omega, fun k => by have := (h x hx).1; rw [List.getD_eq_getElem?_getD, List.getElem?_eq_getElem (by simpa using k)] at this; simpa using this, fun k => by have := (h x hx).2; rw [List.getD_eq_getElem?_getD, List.getElem?_eq_getElem (by simpa using k)] at this; simpa using this, by omega, by omega, rfl, rfl⟩
theorem w64s (p k m : Nat) (h : p = m + k) (hp : p ≤ 1000) : IntKind.i64.wrap ((p : Int) - k) = m := by rw [IntKind.wrap_i64]; omega
end
section
open Go.RowKit
def yV (ws : List Nat) : List V := ws.map fun x : Nat => V.d (.int .u8 x)
theorem o_ny (ws : List Nat) (j v : Nat) : (yV ws).set j (.d (.int .u8 v)) = yV (ws.set j v) := by simp [yV, List.map_set]
@[simp] theorem o_nz (ws : List Nat) : (yV ws).length = ws.length := by simp [yV]
@[simp] theorem o_o0 (n : Nat) (ws : List Nat) : V.lowl n (yV ws) = true := by induction ws <;> simp_all [yV]
@[simp] theorem o_o1 (θ : Nat → Nat) (ws : List Nat) : V.rens θ (yV ws) = yV ws := by induction ws <;> simp_all [yV]
def lit2G (i : Nat) : Nat := (lit2.data.toList.getD i 0).toNat
theorem o_o2 : (List.range 100).all (fun x => lit2G (x * 2) == 48 + x / 10 && lit2G (x * 2 + 1) == 48 + x % 10) = true := by kernel_rfl
theorem o_o3 (x : Nat) (h : x < 100) : lit2G (x * 2) = 48 + x / 10 ∧ lit2G (x * 2 + 1) = 48 + x % 10 := by
 have := List.all_eq_true.1 o_o2 x (by simpa using h)
 simpa using this
theorem o_o4 (A R : List Nat) (m x : Nat) : (yV (A ++ (List.replicate (m + 1) 0 ++ R))).set (A.length + m) (.d (.int .u8 x)) = yV (A ++ (List.replicate m 0 ++ x :: R)) := by rw [o_ny, o_mt]

theorem fillF {A : List Nat} {p m : Nat} (h : p = m + 1) : ∀ (R : List Nat) (x : Nat), (yV (A ++ (List.replicate p 0 ++ R))).set (A.length + m) (.d (.int .u8 x)) = yV (A ++ (List.replicate m 0 ++ x :: R)) := by
 subst h; exact fun R x => o_o4 A R m x
def qN (n j : Nat) : Nat := n / 10 ^ (8 * j)
def rN (nd j : Nat) : Nat := nd - 8 * j
set_option maxHeartbeats 8000000 in
theorem o_o5 (n nd : Nat) (hn : n < 18446744073709551616) (hnd : nd ≤ 20) (hlt : n < 10 ^ nd) (A B : List Nat) (hA : A.length ≤ 1000) :
  Eqn Tryz.prog o_ha [.row 0 A.length nd, .d (.int .u64 n)] [⟨275, yV (A ++ (List.replicate nd 0 ++ B))⟩] (.tup []) [⟨275, yV (A ++ (padN nd n ++ B))⟩] := by
 refine Eqn.obj1 o_hc (by exact Plain.ok) ⟨by simp, by simp⟩ ?_
 have e2 := o_m4
 simp only [o_hb]
 rw [show (⟨#[48, 48, 48, 49, 48, 50, 48, 51, 48, 52, 48, 53, 48, 54, 48, 55, 48, 56, 48, 57, 49, 48, 49, 49, 49, 50, 49, 51, 49, 52, 49, 53, 49, 54, 49, 55, 49, 56, 49, 57, 50, 48, 50, 49, 50, 50, 50, 51, 50, 52, 50, 53, 50, 54, 50, 55, 50, 56, 50, 57, 51, 48, 51, 49, 51, 50, 51, 51, 51, 52, 51, 53, 51, 54, 51, 55, 51, 56, 51, 57, 52, 48, 52, 49, 52, 50, 52, 51, 52, 52, 52, 53, 52, 54, 52, 55, 52, 56, 52, 57, 53, 48, 53, 49, 53, 50, 53, 51, 53, 52, 53, 53, 53, 54, 53, 55, 53, 56, 53, 57, 54, 48, 54, 49, 54, 50, 54, 51, 54, 52, 54, 53, 54, 54, 54, 55, 54, 56, 54, 57, 55, 48, 55, 49, 55, 50, 55, 51, 55, 52, 55, 53, 55, 54, 55, 55, 55, 56, 55, 57, 56, 48, 56, 49, 56, 50, 56, 51, 56, 52, 56, 53, 56, 54, 56, 55, 56, 56, 56, 57, 57, 48, 57, 49, 57, 50, 57, 51, 57, 52, 57, 53, 57, 54, 57, 55, 57, 56, 57, 57]⟩ : ByteArray) = lit2 from rfl]
 have hl2g := o_o3
 unfold lit2G at hl2g
 generalize hl2 : lit2 = l2 at *
 refine A00 ?_; try with_reducible exact tt
 refine AW.loopT (α := Nat) 1 (fun j => [(4, .d (.int .i64 (rN nd j : Nat))), (1, .d (.int .u64 (qN n j : Nat)))]) (fun j => [(0, ⟨275, yV (A ++ (List.replicate (rN nd j) 0 ++ (padN (8 * j) n ++ B)))⟩)]) (fun j => 8 * j ≤ nd) (fun j => nd - 8 * j) 0 ?_ ?_ (by simp) ?_ ?_ ?_
 ·simp
 ·simp
 ·simp [rN, qN]
 ·simp [padN, rN, qN]
 intro j hj
 simp
 have hr0 : rN nd j = nd - 8 * j := rfl
 have hr1 : rN nd (j + 1) = nd - 8 * (j + 1) := rfl
 have hle : qN n j ≤ n := Nat.div_le_self _ _
 have hdd : qN n (j + 1) = qN n j / 100000000 := by rw [qN, qN, Nat.div_div_eq_div_mul, Nat.mul_succ, Nat.pow_add]
 have hpad : ∀ w, padN (w + 8 * j) n = padN w (qN n j) ++ padN (8 * j) n := fun w => by rw [o_mb]; rfl
 by_cases h8 : 8 ≤ rN nd j
 ·have h8' : (8 : Int) ≤ (rN nd j : Nat) := by omega
  replace hpad := hpad 8
  rw [show 8 + 8 * j = 8 * (j + 1) by omega] at hpad
  generalize padN (8 * j) n = X at *
  generalize qN n j = u at *
  generalize rN nd j = p at *
  have hu32 : ∀ x : Nat, x < 4294967296 → IntKind.u32.wrap (x : Int) = x := fun x hx => by rw [IntKind.wrap_u32]; omega
  have hp : p ≤ 1000 := by omega
  have hs1 : 8 * (j + 1) ≤ nd := by omega
  have hs2 : nd - 8 * (j + 1) < nd - 8 * j := by omega
  have du : IntKind.u64.wrap ((u : Int) / 100000000) = (qN n (j + 1) : Nat) := by rw [hdd]; exact o_nx u 100000000 (by omega)
  generalize hu1 : qN n (j + 1) = u1 at du hdd ⊢
  have hpn : p ≤ nd := by omega
  have hrp : rN nd (j + 1) + 8 = p := by omega
  clear hr0 hr1 hle
  clear hn hlt
  obtain ⟨p1, hp1⟩ : ∃ m, p = m + 1 := ⟨p - 1, by omega⟩
  have w1 : IntKind.i64.wrap ((p : Int) - 1) = p1 := w64s p 1 p1 hp1 hp
  obtain ⟨p2, hp2⟩ : ∃ m, p = m + 2 := ⟨p - 2, by omega⟩
  have w2 : IntKind.i64.wrap ((p : Int) - 2) = p2 := w64s p 2 p2 hp2 hp
  obtain ⟨p3, hp3⟩ : ∃ m, p = m + 3 := ⟨p - 3, by omega⟩
  have w3 : IntKind.i64.wrap ((p : Int) - 3) = p3 := w64s p 3 p3 hp3 hp
  obtain ⟨p4, hp4⟩ : ∃ m, p = m + 4 := ⟨p - 4, by omega⟩
  have w4 : IntKind.i64.wrap ((p : Int) - 4) = p4 := w64s p 4 p4 hp4 hp
  obtain ⟨p5, hp5⟩ : ∃ m, p = m + 5 := ⟨p - 5, by omega⟩
  have w5 : IntKind.i64.wrap ((p : Int) - 5) = p5 := w64s p 5 p5 hp5 hp
  obtain ⟨p6, hp6⟩ : ∃ m, p = m + 6 := ⟨p - 6, by omega⟩
  have w6 : IntKind.i64.wrap ((p : Int) - 6) = p6 := w64s p 6 p6 hp6 hp
  obtain ⟨p7, hp7⟩ : ∃ m, p = m + 7 := ⟨p - 7, by omega⟩
  have w7 : IntKind.i64.wrap ((p : Int) - 7) = p7 := w64s p 7 p7 hp7 hp
  obtain ⟨p8, hp8⟩ : ∃ m, p = m + 8 := ⟨p - 8, by omega⟩
  have w8 : IntKind.i64.wrap ((p : Int) - 8) = p8 := w64s p 8 p8 hp8 hp
  have f1 := fillF (A := A) (p := p) (m := p1) (by omega)
  have f2 := fillF (A := A) (p := p1) (m := p2) (by omega)
  have f3 := fillF (A := A) (p := p2) (m := p3) (by omega)
  have f4 := fillF (A := A) (p := p3) (m := p4) (by omega)
  have f5 := fillF (A := A) (p := p4) (m := p5) (by omega)
  have f6 := fillF (A := A) (p := p5) (m := p6) (by omega)
  have f7 := fillF (A := A) (p := p6) (m := p7) (by omega)
  have f8 := fillF (A := A) (p := p7) (m := p8) (by omega)
  obtain ⟨x5, x6, x7, ⟨m5, d6, m7, l6, l7, dig8⟩⟩ := d8 u
  obtain ⟨a7, b7, ⟨da7, mb7, la7, lb7, dig7⟩⟩ := d4 x7 l7
  obtain ⟨a6, b6, ⟨da6, mb6, la6, lb6, dig6⟩⟩ := d4 x6 l6
  have hlk := lk l2 e2 hl2g
  obtain ⟨yA, zA, cA, eA, ⟨wyA, wzA, gyA, gzA, nyA, nzA, hcA, heA⟩⟩ := hlk b7 lb7
  obtain ⟨yB, zB, cB, eB, ⟨wyB, wzB, gyB, gzB, nyB, nzB, hcB, heB⟩⟩ := hlk a7 la7
  obtain ⟨yC, zC, cC, eC, ⟨wyC, wzC, gyC, gzC, nyC, nzC, hcC, heC⟩⟩ := hlk b6 lb6
  obtain ⟨yD, zD, cD, eD, ⟨wyD, wzD, gyD, gzD, nyD, nzD, hcD, heD⟩⟩ := hlk a6 la6
  rw [dig8, dig6, dig7] at hpad
  rw [← hcA, ← heA, ← hcB, ← heB, ← hcC, ← heC, ← hcD, ← heD] at hpad
  clear hcA heA hcB heB hcC heC hcD heD dig8 dig6 dig7 hlk
  repeat (first | refine AW.seq ?_ | refine AW.block ?_)
  refine AW.reg mix ?_
  (simp -implicitDefEqProofs [h8, h8']; try simp (disch := omega) only [w64, wu64])
  try refine need.of (by first | omega | kernel_rfl) ?_
  refine AW.cond rfl (fun _ => ?_) (fun h => ?_)
  rotate_left
  ·simp at h
  refine AW.skip ?_
  simp
  repeat (first | refine AW.seq ?_ | refine AW.block ?_)
  refine AW.reg mix ?_
  (simp -implicitDefEqProofs [m5]; try simp (disch := omega) only [w64, wu64])
  try refine need.of (by first | omega | kernel_rfl) ?_
  repeat (first | refine AW.seq ?_ | refine AW.block ?_)
  refine AW.reg mix ?_
  (simp -implicitDefEqProofs [du]; try simp (disch := omega) only [w64, wu64])
  try refine need.of (by first | omega | kernel_rfl) ?_
  repeat (first | refine AW.seq ?_ | refine AW.block ?_)
  refine AW.reg mix ?_
  (simp -implicitDefEqProofs [d6, m7]; try simp (disch := omega) only [w64, wu64])
  try refine need.of (by first | omega | kernel_rfl) ?_
  repeat (first | refine AW.seq ?_ | refine AW.block ?_)
  refine AW.reg mix ?_
  (simp -implicitDefEqProofs [da7, mb7, wyA, wyB]; try simp (disch := omega) only [w64, wu64])
  try refine need.of (by first | omega | kernel_rfl) ?_
  repeat (first | refine AW.seq ?_ | refine AW.block ?_)
  refine AW.reg mix ?_
  (simp -implicitDefEqProofs [da6, mb6, wyC, wyD]; try simp (disch := omega) only [w64, wu64])
  try refine need.of (by first | omega | kernel_rfl) ?_
  refine G1 (fs w1 (fs w2 (fs w3 (fs w4 (fs w5 (fs w6 (fs w7 (fs w8 (fs wzA (fs wzB (fs wzC (fs wzD (fs gyA (fs gyB (fs gyC (fs gyD (fs gzA (fs gzB (fs gzC (fs gzD (fs nyA (fs nyB (fs nyC (fs nyD (fs nzA (fs nzB (fs nzC (fs nzD (fs f1 (fs f2 (fs f3 (fs f4 (fs f5 (fs f6 (fs f7 f8))))))))))))))))))))))))))))))))))) ?_; try with_reducible exact tt
  refine ⟨j + 1, hs1, hs2, ⟨Sub1.int (by rw [hu1]), Sub1.int (by omega)⟩, Subs.of ?_⟩
  rw [hpad, show rN nd (j + 1) = p8 by omega]
  simp
 ·have h8' : ¬ (8 : Int) ≤ (rN nd j : Nat) := by omega
  have hul : qN n j < 10 ^ rN nd j := by
   rw [qN, hr0, Nat.div_lt_iff_lt_mul (Nat.pow_pos (by decide)), ← Nat.pow_add, show nd - 8 * j + 8 * j = nd by omega]
   exact hlt
  replace hpad := hpad (rN nd j)
  rw [show rN nd j + 8 * j = nd by omega] at hpad
  have hfin : padN nd n ++ B = padN (rN nd j) (qN n j) ++ (padN (8 * j) n ++ B) := by rw [hpad, List.append_assoc]
  rw [hfin]
  have hp : rN nd j < 8 := by omega
  have hpn : rN nd j ≤ nd := by omega
  generalize padN (8 * j) n ++ B = X at *
  generalize qN n j = u at *
  generalize rN nd j = p at *
  have hu7 : u < 10000000 := Nat.lt_of_lt_of_le hul (Nat.pow_le_pow_right (by decide) (show p ≤ 7 by omega))
  clear hfin hpad hdd hr0 hr1 hle hn hlt hj
  have hlk := lk l2 e2 hl2g
  have du : IntKind.u32.wrap (u : Int) = u := u32N u (by omega)
  refine A10 (fs h8 (fs h8' du)) ?_; try with_reducible exact tt
  by_cases h4 : 4 ≤ p
  ·have h4' : (4 : Int) ≤ p := by omega
   obtain ⟨p4, hp4⟩ : ∃ m, p = m + 4 := ⟨p - 4, by omega⟩
   obtain ⟨p1, hp1⟩ : ∃ m, p = m + 1 := ⟨p - 1, by omega⟩
   obtain ⟨p2, hp2⟩ : ∃ m, p = m + 2 := ⟨p - 2, by omega⟩
   obtain ⟨p3, hp3⟩ : ∃ m, p = m + 3 := ⟨p - 3, by omega⟩
   have w1 : IntKind.i64.wrap ((p : Int) - 1) = p1 := w64s p 1 p1 hp1 (by omega)
   have w2 : IntKind.i64.wrap ((p : Int) - 2) = p2 := w64s p 2 p2 hp2 (by omega)
   have w3 : IntKind.i64.wrap ((p : Int) - 3) = p3 := w64s p 3 p3 hp3 (by omega)
   have w4 : IntKind.i64.wrap ((p : Int) - 4) = p4 := w64s p 4 p4 hp4 (by omega)
   have f1 := fillF (A := A) (p := p) (m := p1) (by omega)
   have f2 := fillF (A := A) (p := p1) (m := p2) (by omega)
   have f3 := fillF (A := A) (p := p2) (m := p3) (by omega)
   have f4 := fillF (A := A) (p := p3) (m := p4) (by omega)
   have hbU4 : u / 10000 < 10 ^ p4 := by rw [Nat.div_lt_iff_lt_mul (by decide), show (10000 : Nat) = 10 ^ 4 from rfl, ← Nat.pow_add, ← hp4]; exact hul
   have hpd4 : padN p u = padN p4 (u / 10000) ++ padN 4 (u / 10000 * 10000 + u % 10000) := by rw [show u / 10000 * 10000 + u % 10000 = u by omega, hp4, o_mb]
   obtain ⟨x4, hx4⟩ : ∃ b, b = u % 10000 := ⟨_, rfl⟩
   have m4 : (u : Int).tmod 10000 = x4 := by rw [hx4]; exact modN u 10000
   have l4 : x4 < 10000 := by rw [hx4]; exact Nat.mod_lt _ (by decide)
   rw [← hx4] at hpd4
   obtain ⟨a7, b7, ⟨da7, mb7, la7, lb7, dig7⟩⟩ := d4 x4 l4
   obtain ⟨yA, zA, cA, eA, ⟨wyA, wzA, gyA, gzA, nyA, nzA, hcA, heA⟩⟩ := hlk b7 lb7
   obtain ⟨yB, zB, cB, eB, ⟨wyB, wzB, gyB, gzB, nyB, nzB, hcB, heB⟩⟩ := hlk a7 la7
   rw [dig7, ← hcA, ← heA, ← hcB, ← heB] at hpd4
   have dU4 : IntKind.u32.wrap ((u : Int) / 10000) = (u / 10000 : Nat) := o_nw u 10000 (by omega)
   have hU74 : u / 10000 < 10000000 := Nat.lt_of_le_of_lt (Nat.div_le_self _ _) hu7
   rw [hpd4]
   clear hx4 hcA heA hcB heB hpd4 dig7
   generalize u / 10000 = u4 at *
   clear hul hu7 du
   refine A10 (fs h4 (fs h4' (fs m4 (fs dU4 (fs da7 (fs mb7 (fs wyA (fs wyB (fs w1 (fs w2 (fs w3 (fs w4 (fs wzA (fs wzB (fs gyA (fs gyB (fs gzA (fs gzB (fs nyA (fs nyB (fs nzA (fs nzB (fs f1 (fs f2 (fs f3 f4))))))))))))))))))))))))) ?_; try with_reducible exact tt
   by_cases h2 : 2 ≤ p4
   ·have h2' : (2 : Int) ≤ p4 := by omega
    obtain ⟨q1, hq1⟩ : ∃ m, p4 = m + 1 := ⟨p4 - 1, by omega⟩
    have v1 : IntKind.i64.wrap ((p4 : Int) - 1) = q1 := w64s p4 1 q1 hq1 (by omega)
    obtain ⟨q2, hq2⟩ : ∃ m, p4 = m + 2 := ⟨p4 - 2, by omega⟩
    have v2 : IntKind.i64.wrap ((p4 : Int) - 2) = q2 := w64s p4 2 q2 hq2 (by omega)
    have t1 := fillF (A := A) (p := p4) (m := q1) (by omega)
    have t2 := fillF (A := A) (p := q1) (m := q2) (by omega)
    have hbW2 : u4 / 100 < 10 ^ q2 := by rw [Nat.div_lt_iff_lt_mul (by decide), show (100 : Nat) = 10 ^ 2 from rfl, ← Nat.pow_add, ← hq2]; exact hbU4
    have hpd2 : padN p4 u4 = padN q2 (u4 / 100) ++ padN 2 u4 := by rw [hq2, o_mb]
    rw [o_md] at hpd2
    obtain ⟨b2, hb2⟩ : ∃ b, b = u4 % 100 := ⟨_, rfl⟩
    have mb2 : (u4 : Int).tmod 100 = b2 := by rw [hb2]; exact modN u4 100
    have lb2 : b2 < 100 := by rw [hb2]; exact Nat.mod_lt _ (by decide)
    obtain ⟨yE, zE, cE, eE, ⟨wyE, wzE, gyE, gzE, nyE, nzE, hcE, heE⟩⟩ := hlk b2 lb2
    rw [show u4 / 10 % 10 = b2 / 10 by omega, show u4 % 10 = b2 % 10 by omega, ← hcE, ← heE] at hpd2
    have dU2 : IntKind.u32.wrap ((u4 : Int) / 100) = (u4 / 100 : Nat) := o_nw u4 100 (by omega)
    have hU72 : u4 / 100 < 10000000 := Nat.lt_of_le_of_lt (Nat.div_le_self _ _) hU74
    rw [hpd2]
    clear hb2 hcE heE hpd2
    generalize u4 / 100 = W2 at *
    clear hbU4 hU74
    refine A10 (fs h2 (fs h2' (fs mb2 (fs wyE (fs dU2 (fs v1 (fs v2 (fs wzE (fs gyE (fs gzE (fs nyE (fs nzE (fs t1 t2))))))))))))) ?_; try with_reducible exact tt
    by_cases h1 : 0 < q2
    ·have h1' : (0 : Int) < q2 := by omega
     have hP1 : q2 = 0 + 1 := by omega
     have hU : W2 < 10 := by rw [hP1] at hbW2; simpa using hbW2
     obtain ⟨c, hc⟩ : ∃ c, c = 48 + W2 := ⟨_, rfl⟩
     have o1 : IntKind.u32.wrap (48 + (W2 : Int)) = c := by rw [IntKind.wrap_u32]; omega
     have o2 : IntKind.u8.wrap (c : Int) = c := by rw [IntKind.wrap_u8]; omega
     have f := fillF (A := A) (p := q2) (m := 0) hP1
     rw [Nat.add_zero] at f
     have hnd0 : (0 : Int) < nd := by omega
     have hnd1 : 0 < nd := by omega
     refine A10 (fs h1 (fs h1' (fs o1 (fs o2 (fs f (fs hnd0 hnd1)))))) ?_; try with_reducible exact tt
     refine Subs.of ?_
     rw [hP1, hc]
     simp [padN, Nat.mod_eq_of_lt hU]
    ·have h1' : ¬ (0 : Int) < q2 := by omega
     have hP0 : q2 = 0 := by omega
     subst hP0
     refine A10 (fs h1 h1') ?_; try with_reducible exact tt
     exact Subs.of (by simp [padN])
   ·have h2' : ¬ (2 : Int) ≤ p4 := by omega
    refine A10 (fs h2 h2') ?_; try with_reducible exact tt
    by_cases h1 : 0 < p4
    ·have h1' : (0 : Int) < p4 := by omega
     have hP1 : p4 = 0 + 1 := by omega
     have hU : u4 < 10 := by rw [hP1] at hbU4; simpa using hbU4
     obtain ⟨c, hc⟩ : ∃ c, c = 48 + u4 := ⟨_, rfl⟩
     have o1 : IntKind.u32.wrap (48 + (u4 : Int)) = c := by rw [IntKind.wrap_u32]; omega
     have o2 : IntKind.u8.wrap (c : Int) = c := by rw [IntKind.wrap_u8]; omega
     have f := fillF (A := A) (p := p4) (m := 0) hP1
     rw [Nat.add_zero] at f
     have hnd0 : (0 : Int) < nd := by omega
     have hnd1 : 0 < nd := by omega
     refine A10 (fs h1 (fs h1' (fs o1 (fs o2 (fs f (fs hnd0 hnd1)))))) ?_; try with_reducible exact tt
     refine Subs.of ?_
     rw [hP1, hc]
     simp [padN, Nat.mod_eq_of_lt hU]
    ·have h1' : ¬ (0 : Int) < p4 := by omega
     have hP0 : p4 = 0 := by omega
     subst hP0
     refine A10 (fs h1 h1') ?_; try with_reducible exact tt
     exact Subs.of (by simp [padN])
  ·have h4' : ¬ (4 : Int) ≤ p := by omega
   refine A10 (fs h4 h4') ?_; try with_reducible exact tt
   by_cases h2 : 2 ≤ p
   ·have h2' : (2 : Int) ≤ p := by omega
    obtain ⟨q1, hq1⟩ : ∃ m, p = m + 1 := ⟨p - 1, by omega⟩
    have v1 : IntKind.i64.wrap ((p : Int) - 1) = q1 := w64s p 1 q1 hq1 (by omega)
    obtain ⟨q2, hq2⟩ : ∃ m, p = m + 2 := ⟨p - 2, by omega⟩
    have v2 : IntKind.i64.wrap ((p : Int) - 2) = q2 := w64s p 2 q2 hq2 (by omega)
    have t1 := fillF (A := A) (p := p) (m := q1) (by omega)
    have t2 := fillF (A := A) (p := q1) (m := q2) (by omega)
    have hbW2 : u / 100 < 10 ^ q2 := by rw [Nat.div_lt_iff_lt_mul (by decide), show (100 : Nat) = 10 ^ 2 from rfl, ← Nat.pow_add, ← hq2]; exact hul
    have hpd2 : padN p u = padN q2 (u / 100) ++ padN 2 u := by rw [hq2, o_mb]
    rw [o_md] at hpd2
    obtain ⟨b2, hb2⟩ : ∃ b, b = u % 100 := ⟨_, rfl⟩
    have mb2 : (u : Int).tmod 100 = b2 := by rw [hb2]; exact modN u 100
    have lb2 : b2 < 100 := by rw [hb2]; exact Nat.mod_lt _ (by decide)
    obtain ⟨yE, zE, cE, eE, ⟨wyE, wzE, gyE, gzE, nyE, nzE, hcE, heE⟩⟩ := hlk b2 lb2
    rw [show u / 10 % 10 = b2 / 10 by omega, show u % 10 = b2 % 10 by omega, ← hcE, ← heE] at hpd2
    have dU2 : IntKind.u32.wrap ((u : Int) / 100) = (u / 100 : Nat) := o_nw u 100 (by omega)
    have hU72 : u / 100 < 10000000 := Nat.lt_of_le_of_lt (Nat.div_le_self _ _) hu7
    rw [hpd2]
    clear hb2 hcE heE hpd2
    generalize u / 100 = W2 at *
    clear hul hu7
    refine A10 (fs h2 (fs h2' (fs mb2 (fs wyE (fs dU2 (fs v1 (fs v2 (fs wzE (fs gyE (fs gzE (fs nyE (fs nzE (fs t1 t2))))))))))))) ?_; try with_reducible exact tt
    by_cases h1 : 0 < q2
    ·have h1' : (0 : Int) < q2 := by omega
     have hP1 : q2 = 0 + 1 := by omega
     have hU : W2 < 10 := by rw [hP1] at hbW2; simpa using hbW2
     obtain ⟨c, hc⟩ : ∃ c, c = 48 + W2 := ⟨_, rfl⟩
     have o1 : IntKind.u32.wrap (48 + (W2 : Int)) = c := by rw [IntKind.wrap_u32]; omega
     have o2 : IntKind.u8.wrap (c : Int) = c := by rw [IntKind.wrap_u8]; omega
     have f := fillF (A := A) (p := q2) (m := 0) hP1
     rw [Nat.add_zero] at f
     have hnd0 : (0 : Int) < nd := by omega
     have hnd1 : 0 < nd := by omega
     refine A10 (fs h1 (fs h1' (fs o1 (fs o2 (fs f (fs hnd0 hnd1)))))) ?_; try with_reducible exact tt
     refine Subs.of ?_
     rw [hP1, hc]
     simp [padN, Nat.mod_eq_of_lt hU]
    ·have h1' : ¬ (0 : Int) < q2 := by omega
     have hP0 : q2 = 0 := by omega
     subst hP0
     refine A10 (fs h1 h1') ?_; try with_reducible exact tt
     exact Subs.of (by simp [padN])
   ·have h2' : ¬ (2 : Int) ≤ p := by omega
    refine A10 (fs h2 h2') ?_; try with_reducible exact tt
    by_cases h1 : 0 < p
    ·have h1' : (0 : Int) < p := by omega
     have hP1 : p = 0 + 1 := by omega
     have hU : u < 10 := by rw [hP1] at hul; simpa using hul
     obtain ⟨c, hc⟩ : ∃ c, c = 48 + u := ⟨_, rfl⟩
     have o1 : IntKind.u32.wrap (48 + (u : Int)) = c := by rw [IntKind.wrap_u32]; omega
     have o2 : IntKind.u8.wrap (c : Int) = c := by rw [IntKind.wrap_u8]; omega
     have f := fillF (A := A) (p := p) (m := 0) hP1
     rw [Nat.add_zero] at f
     have hnd0 : (0 : Int) < nd := by omega
     have hnd1 : 0 < nd := by omega
     refine A10 (fs h1 (fs h1' (fs o1 (fs o2 (fs f (fs hnd0 hnd1)))))) ?_; try with_reducible exact tt
     refine Subs.of ?_
     rw [hP1, hc]
     simp [padN, Nat.mod_eq_of_lt hU]
    ·have h1' : ¬ (0 : Int) < p := by omega
     have hP0 : p = 0 := by omega
     subst hP0
     refine A10 (fs h1 h1') ?_; try with_reducible exact tt
     exact Subs.of (by simp [padN])
end
section
open Go.RowKit
@[simp] theorem o_o6 : ∀ l : List Nat, intsV (yV l) = some (l.map fun n : Nat => (n : Int))
 | [] => rfl
 | x :: l => by
  have := o_o6 l
  unfold yV at this ⊢
  rw [List.map_cons, intsV, this]
  rfl
theorem o_o7 (l : List Nat) : strOf (l.map fun n : Nat => (n : Int)) = bst l := by
 unfold strOf bst
 rw [List.map_map]
 congr 1
theorem o_o8 : ((List.range 10).all fun n => (lit1.extract n (n + 1)).data.toList == [UInt8.ofNat (48 + n)]) = true ∧ ((List.range 100).all fun n => n < 10 || (lit2.extract (n * 2) (n * 2 + 2)).data.toList == [UInt8.ofNat (48 + n / 10), UInt8.ofNat (48 + n % 10)]) = true := ⟨by kernel_rfl, by kernel_rfl⟩
theorem o_o9 (n : Nat) (h : n < 100) : smallS n = txt n := by
 have key : ∀ (s : ByteArray) (l : List UInt8), s.data.toList = l → s = ⟨l.toArray⟩ := by
  rintro ⟨a⟩ l rfl
  rfl
 unfold smallS
 split
 ·rename_i h10
  have := List.all_eq_true.1 o_o8.1 n (by simpa using h10)
  simp only [beq_iff_eq] at this
  rw [key _ _ this, txt, decN, ndig, if_pos h10]
  simp [padN, bst, Nat.mod_eq_of_lt h10]
 ·rename_i h10
  have := List.all_eq_true.1 o_o8.2 n (by simpa using h)
  simp only [h10, decide_false, Bool.false_or, beq_iff_eq] at this
  have h1 : n / 10 < 10 := by omega
  rw [key _ _ this, txt, decN, ndig, if_neg h10, ndig, if_pos h1]
  simp [padN, bst, Nat.mod_eq_of_lt h1]
theorem o_oa (n : Nat) (hn : n < 18446744073709551616) : Eqn Tryz.prog o_fs [.d (.int .u64 n), .d (.int .i64 10)] [] (.d (.str (txt n))) [] := by
 by_cases h100 : n < 100
 ·rw [← o_o9 n h100]; exact o_m9 n h100
 refine Eqn.pure o_fu (o_58 _) ?_
 simp only [o_ft]
 have h1 : ¬ (n : Int) < 100 := by omega
 have hnd := o_nu n (by omega) hn
 have hlt := o_mj n
 have hle := o_mk n 20 (Nat.lt_trans hn (by decide)) (by decide)
 have htx : txt n = bst (padN (ndig n) n) := rfl
 rw [htx]
 generalize ndig n = nd at *
 have hf := o_o5 n nd hn hle hlt [] (List.replicate (24 - nd) 0) (by simp)
 have hz : yV ([] ++ (List.replicate nd 0 ++ List.replicate (24 - nd) 0)) = List.replicate 24 (V.d (.int .u8 0)) := by
  rw [List.nil_append, List.replicate_append_replicate, show nd + (24 - nd) = 24 by omega]; rfl
 rw [hz] at hf
 rw [List.nil_append, List.length_nil] at hf
 have htk : (yV (padN nd n ++ List.replicate (24 - nd) 0)).take nd = yV (padN nd n) := by
  unfold yV
  rw [List.map_append, List.take_append_of_le_length (by rw [List.length_map, o_ma]; exact Nat.le_refl _), List.take_of_length_le (by rw [List.length_map, o_ma]; exact Nat.le_refl _)]
 have hln : (padN nd n).length = nd := o_ma _ _
 have hst := o_o7 (padN nd n)
 have hni : (nd : Int) ≤ 24 := by omega
 refine A10 (fs h100 h1) ?_; try with_reducible exact tt
 refine CallS.pu (hnd) (R1 hni ?_); try with_reducible exact tt
 refine CallS.g [0] (hf) (R1 (fs hni (fs htk (fs hln hst))) ?_); try with_reducible exact tt
 done
end
section
open Go.RowKit
theorem and32 (x : Nat) (h : x < 18446744073709551616) : bits BinOp.and IntKind.u64 (x : Int) 4294967295 = ((x % 4294967296 : Nat) : Int) := by
 have := bits_and_u64_nat x 4294967295 h (by omega)
 rw [show ((4294967295 : Nat) : Int) = 4294967295 by rfl] at this
 rw [this, show (4294967295 : Nat) = 2 ^ 32 - 1 by rfl, Nat.and_two_pow_sub_one_eq_mod]

theorem o_ob (x y : Nat) (hx : x < 18446744073709551616) (hy : y < 18446744073709551616) :
  let x0 := x % 4294967296; let x1 := x / 4294967296; let y0 := y % 4294967296; let y1 := y / 4294967296
  let w0 := x0 * y0; let t := x1 * y0 + w0 / 4294967296; let w1 := t % 4294967296 + x0 * y1
  w0 < 18446744073709551616 ∧ x1 * y0 < 18446744073709551616 ∧ t < 18446744073709551616 ∧ x0 * y1 < 18446744073709551616 ∧ w1 < 18446744073709551616 ∧ x1 * y1 < 18446744073709551616 ∧
  x1 * y1 + t / 4294967296 < 18446744073709551616 ∧ x1 * y1 + t / 4294967296 + w1 / 4294967296 < 18446744073709551616 ∧
  x * y = (x1 * y1 + t / 4294967296 + w1 / 4294967296) * 18446744073709551616 + x * y % 18446744073709551616 := by
 intro x0 x1 y0 y1 w0 t w1
 have hx0 : x0 < 4294967296 := Nat.mod_lt _ (by decide)
 have hy0 : y0 < 4294967296 := Nat.mod_lt _ (by decide)
 have hx1 : x1 < 4294967296 := by simp only [x1]; omega
 have hy1 : y1 < 4294967296 := by simp only [y1]; omega
 have ex : x = x1 * 4294967296 + x0 := by simp only [x1, x0]; omega
 have ey : y = y1 * 4294967296 + y0 := by simp only [y1, y0]; omega
 have b : ∀ {a c : Nat}, a < 4294967296 → c < 4294967296 → a * c ≤ 18446744065119617025 := fun {a c} ha hc => by
  have := Nat.mul_le_mul (show a ≤ 4294967295 by omega) (show c ≤ 4294967295 by omega)
  omega
 have b00 := b hx0 hy0
 have b10 := b hx1 hy0
 have b01 := b hx0 hy1
 have b11 := b hx1 hy1
 have exy : x * y = x1 * y1 * 18446744073709551616 + (x1 * y0 + x0 * y1) * 4294967296 + x0 * y0 := by
  rw [ex, ey]
  simp only [Nat.add_mul, Nat.mul_add]
  have e1 : x1 * 4294967296 * (y1 * 4294967296) = x1 * y1 * 18446744073709551616 := by
   rw [Nat.mul_mul_mul_comm]
  have e2 : x1 * 4294967296 * y0 = x1 * y0 * 4294967296 := by rw [Nat.mul_right_comm]
  have e3 : x0 * (y1 * 4294967296) = x0 * y1 * 4294967296 := by rw [Nat.mul_assoc]
  rw [e1, e2, e3]; omega
 have hw0 : w0 = x0 * y0 := rfl
 generalize x * y = xy at exy ⊢
 generalize x0 * y0 = a00 at *
 have ht : t = x1 * y0 + w0 / 4294967296 := rfl
 generalize x1 * y0 = a10 at *
 have hw1 : w1 = t % 4294967296 + x0 * y1 := rfl
 generalize x0 * y1 = a01 at *
 generalize x1 * y1 = a11 at *
 clear_value w0 t w1
 omega

theorem o_oc (x y : Nat) (hx : x < 18446744073709551616) (hy : y < 18446744073709551616) : Eqn Tryz.prog o_d6 [.d (.int .u64 x), .d (.int .u64 y)] [] (.tup [.d (.int .u64 (x * y / 18446744073709551616 : Nat)), .d (.int .u64 (x * y % 18446744073709551616 : Nat))]) [] := by
 refine Eqn.pure o_d8 (o_l8 _ _) ?_
 simp only [o_d7]
 have hp := o_ob x y hx hy
 simp only at hp
 have a1 := and32 x hx
 have a2 := and32 y hy
 have d1 : (x : Int) / 4294967296 = (x / 4294967296 : Nat) := rfl
 have d2 : (y : Int) / 4294967296 = (y / 4294967296 : Nat) := rfl
 have l1 : x % 4294967296 < 4294967296 := Nat.mod_lt _ (by decide)
 generalize x % 4294967296 = x0 at hp a1 l1
 generalize x / 4294967296 = x1 at hp d1
 generalize y % 4294967296 = y0 at hp a2
 generalize y / 4294967296 = y1 at hp d2
 obtain ⟨p1, p2, p3, p4, p5, p6, p7, p8, p9⟩ := hp
 have m1 : IntKind.u64.wrap ((x0 : Int) * y0) = (x0 * y0 : Nat) := by rw [← Int.natCast_mul]; exact wu64 (by omega) (by omega)
 have m2 : IntKind.u64.wrap ((x1 : Int) * y0) = (x1 * y0 : Nat) := by rw [← Int.natCast_mul]; exact wu64 (by omega) (by omega)
 have m3 : IntKind.u64.wrap ((x0 : Int) * y1) = (x0 * y1 : Nat) := by rw [← Int.natCast_mul]; exact wu64 (by omega) (by omega)
 have m4 : IntKind.u64.wrap ((x1 : Int) * y1) = (x1 * y1 : Nat) := by rw [← Int.natCast_mul]; exact wu64 (by omega) (by omega)
 have m5 : IntKind.u64.wrap ((x : Int) * y) = (x * y % 18446744073709551616 : Nat) := by rw [IntKind.wrap_u64, Int.natCast_emod, Int.natCast_mul]; rfl
 have lo : x * y % 18446744073709551616 < 18446744073709551616 := Nat.mod_lt _ (by decide)
 generalize x * y % 18446744073709551616 = low at *
 generalize x * y = xy at *
 generalize x0 * y0 = a00 at *
 generalize x1 * y0 = a10 at *
 generalize x0 * y1 = a01 at *
 generalize x1 * y1 = a11 at *
 have q1 : (a00 : Int) / 4294967296 = (a00 / 4294967296 : Nat) := rfl
 generalize a00 / 4294967296 = b0 at *
 have s1 : IntKind.u64.wrap ((a10 : Int) + b0) = (a10 + b0 : Nat) := wu64 (by omega) (by omega)
 have a3 := and32 (a10 + b0) p3
 have q2 : ((a10 + b0 : Nat) : Int) / 4294967296 = ((a10 + b0) / 4294967296 : Nat) := rfl
 generalize (a10 + b0) / 4294967296 = t1 at *
 generalize (a10 + b0) % 4294967296 = t0 at *
 generalize a10 + b0 = t at *
 have s2 : IntKind.u64.wrap ((t0 : Int) + a01) = (t0 + a01 : Nat) := wu64 (by omega) (by omega)
 have q3 : ((t0 + a01 : Nat) : Int) / 4294967296 = ((t0 + a01) / 4294967296 : Nat) := rfl
 generalize (t0 + a01) / 4294967296 = v1 at *
 generalize t0 + a01 = v at *
 have s3 : IntKind.u64.wrap ((a11 : Int) + t1) = (a11 + t1 : Nat) := wu64 (by omega) (by omega)
 have s4 : IntKind.u64.wrap (((a11 + t1 : Nat) : Int) + v1) = (a11 + t1 + v1 : Nat) := wu64 (by omega) (by omega)
 have fin : xy / 18446744073709551616 = a11 + t1 + v1 := by omega
 rw [fin]
 generalize a11 + t1 + v1 = hi at *
 generalize a11 + t1 = r at *
 refine G1 (fs a1 (fs a2 (fs d1 (fs d2 (fs m1 (fs m2 (fs m3 (fs m4 (fs m5 (fs q1 (fs s1 (fs a3 (fs q2 (fs s2 (fs q3 (fs s3 s4)))))))))))))))) ?_; try with_reducible exact tt
end
section
open Go.RowKit
theorem o_od (hi lo y : Nat) (h0 : hi < y) (hl : lo < 18446744073709551616) (hy : y < 18446744073709551616) :
  ∃ s Y u v : Nat, s = 64 - bitsN y ∧ s ≤ 63 ∧ y * 2 ^ s = Y ∧ Y < 18446744073709551616 ∧ 9223372036854775808 ≤ Y ∧ hi * 2 ^ s < 18446744073709551616 ∧ hi * 2 ^ s ||| lo / 2 ^ (64 - s) = u ∧ lo * 2 ^ s % 18446744073709551616 = v ∧ u < Y ∧ v < 18446744073709551616 ∧
   (hi * 18446744073709551616 + lo) * 2 ^ s = u * 18446744073709551616 + v := by
 obtain ⟨b1, b2⟩ := o_mx (n := y) (by omega)
 have b3 := o_mu y
 have b4 : bitsN y ≤ 64 := o_mv (by omega)
 have hs : 64 - bitsN y ≤ 63 := by omega
 have hY1 : y * 2 ^ (64 - bitsN y) < 18446744073709551616 := by
  have : 2 ^ bitsN y * 2 ^ (64 - bitsN y) = 18446744073709551616 := by rw [← Nat.pow_add, show bitsN y + (64 - bitsN y) = 64 by omega]
  rw [← this]
  exact Nat.mul_lt_mul_of_pos_right b3 (Nat.two_pow_pos _)
 have hY2 : 9223372036854775808 ≤ y * 2 ^ (64 - bitsN y) := by
  have : 2 ^ (bitsN y - 1) * 2 ^ (64 - bitsN y) = 9223372036854775808 := by rw [← Nat.pow_add, show bitsN y - 1 + (64 - bitsN y) = 63 by omega]
  rw [← this]
  exact Nat.mul_le_mul_right _ b1
 generalize 64 - bitsN y = s at *
 have hB : (18446744073709551616 : Nat) = 2 ^ s * 2 ^ (64 - s) := by rw [← Nat.pow_add, show s + (64 - s) = 64 by omega]
 have hp := Nat.two_pow_pos s
 have hp' := Nat.two_pow_pos (64 - s)
 have hh : hi * 2 ^ s < y * 2 ^ s := Nat.mul_lt_mul_of_pos_right h0 hp
 have hlq : lo / 2 ^ (64 - s) < 2 ^ s := by rw [Nat.div_lt_iff_lt_mul hp', ← hB]; exact hl
 have hor : hi * 2 ^ s ||| lo / 2 ^ (64 - s) = hi * 2 ^ s + lo / 2 ^ (64 - s) := by
  rw [Nat.mul_comm, ← Nat.two_pow_add_eq_or_of_lt hlq]
 have hlo : lo * 2 ^ s = lo / 2 ^ (64 - s) * 18446744073709551616 + lo * 2 ^ s % 18446744073709551616 := by
  have h1 : lo * 2 ^ s / 18446744073709551616 = lo / 2 ^ (64 - s) := by
   conv => lhs; rw [hB]
   rw [Nat.mul_comm lo, Nat.mul_div_mul_left _ _ hp]
  have h2 := Nat.div_add_mod (lo * 2 ^ s) 18446744073709551616
  rw [h1] at h2
  omega
 have hlm : lo * 2 ^ s % 18446744073709551616 < 18446744073709551616 := Nat.mod_lt _ (by decide)
 have hN : (hi * 18446744073709551616 + lo) * 2 ^ s = (hi * 2 ^ s) * 18446744073709551616 + lo * 2 ^ s := by
  rw [Nat.add_mul, Nat.mul_right_comm]
 refine ⟨s, y * 2 ^ s, hi * 2 ^ s + lo / 2 ^ (64 - s), lo * 2 ^ s % 18446744073709551616, rfl, hs, rfl, hY1, hY2, by omega, hor, rfl, ?_, hlm, ?_⟩
 ·have h1 : (hi + 1) * 2 ^ s ≤ y * 2 ^ s := Nat.mul_le_mul_right _ h0
  rw [Nat.add_mul, Nat.one_mul] at h1
  omega
 ·rw [hN, hlo, Nat.add_mul]
  generalize lo * 2 ^ s % 18446744073709551616 = a at *
  generalize lo / 2 ^ (64 - s) = b at *
  generalize hi * 2 ^ s = c at *
  omega

def hInv (Y1 Y0 u v : Nat) (q r : Nat) : Prop := q * Y1 + r = u ∧ u * 4294967296 + v < (q + 1) * (Y1 * 4294967296 + Y0) ∧ r < 4294967296

theorem o_oe {Y1 Y0 u v : Nat} (h1 : 0 < Y1) (h2 : Y1 < 4294967296) (hv : v < 4294967296) : hInv Y1 Y0 u v (u / Y1) (u % Y1) := by
 refine ⟨?_, o_n3 h1 hv, ?_⟩
 ·rw [Nat.mul_comm]; exact Nat.div_add_mod u Y1
 ·have := Nat.mod_lt u h1; omega

set_option maxHeartbeats 8000000 in
theorem o_of (hi lo y : Nat) (h0 : hi < y) (hl : lo < 18446744073709551616) (hy : y < 18446744073709551616) : Eqn Tryz.prog o_fp [.d (.int .u64 hi), .d (.int .u64 lo), .d (.int .u64 y)] [] (.tup [.d (.int .u64 ((hi * 18446744073709551616 + lo) / y : Nat)), .d (.int .u64 ((hi * 18446744073709551616 + lo) % y : Nat))]) [] := by
 rcases Nat.eq_zero_or_pos hi with rfl | hpos
 ·rw [Nat.zero_mul, Nat.zero_add]
  exact o_lr lo y hl (by omega)
 refine Eqn.pure o_fr (o_l8 _ _) ?_
 simp only [o_fq]
 obtain ⟨s, Y, u, v, hs, hs63, hY, hYl, hYg, hhs, hor, hv, hu, hvl, hN⟩ := o_od hi lo y h0 hl hy
 have hq : (hi * 18446744073709551616 + lo) / y = (u * 18446744073709551616 + v) / Y := by rw [← hN, ← hY]; exact o_n4.1.symm
 have hr : (hi * 18446744073709551616 + lo) % y = (u * 18446744073709551616 + v) % Y / 2 ^ s := by rw [← hN, ← hY]; exact o_n4.2.symm
 rw [hq, hr]
 clear hq hr hN
 obtain ⟨Qf, hQf⟩ : ∃ Qf, Qf = (u * 18446744073709551616 + v) / Y := ⟨_, rfl⟩
 obtain ⟨Rf, hRf⟩ : ∃ Rf, Rf = (u * 18446744073709551616 + v) % Y / 2 ^ s := ⟨_, rfl⟩
 rw [← hQf, ← hRf]
 have h1 : ¬ y = 0 := by omega
 have h2 : ¬ (y : Int) ≤ hi := by omega
 have h3 : ¬ hi = 0 := by omega
 have h1' : ¬ (y : Int) = 0 := by omega
 have h3' : ¬ (hi : Int) = 0 := by omega
 refine G1 (fs h1 h1') ?_; try with_reducible exact tt
 refine AW.cond rfl (fun h => ?_) (fun h => ?_)
 ·simp [h1] at h
 refine G1 h2 ?_; try with_reducible exact tt
 refine AW.cond rfl (fun h => ?_) (fun h => ?_)
 ·simp [h2] at h
 refine G1 (fs h3 h3') ?_; try with_reducible exact tt
 refine AW.cond rfl (fun h => ?_) (fun h => ?_)
 ·simp [h3] at h
 refine G0 ?_; try with_reducible exact tt
 have hlead := o_ne y hy
 rw [← hs] at hlead
 have hq1' := Nat.div_add_mod Y 4294967296
 have hY0' : Y % 4294967296 < 4294967296 := Nat.mod_lt _ (by decide)
 have hv' := Nat.div_add_mod v 4294967296
 have hv0' : v % 4294967296 < 4294967296 := Nat.mod_lt _ (by decide)
 have f1 : IntKind.u64.wrap (s : Int) = s := wu64 (by omega) (by omega)
 have f2 : IntKind.u64.wrap ((y : Int) * 2 ^ s) = Y := by
  rw [show (y : Int) * 2 ^ s = ((y * 2 ^ s : Nat) : Int) by rw [Int.natCast_mul, Int.natCast_pow]; rfl, hY]; exact wu64 (by omega) (by omega)
 have f3 : (Y : Int) / 4294967296 = (Y / 4294967296 : Nat) := rfl
 have f4 := and32 Y hYl
 have f5 : IntKind.u64.wrap ((hi : Int) * 2 ^ s) = (hi * 2 ^ s : Nat) := by
  rw [show (hi : Int) * 2 ^ s = ((hi * 2 ^ s : Nat) : Int) by rw [Int.natCast_mul, Int.natCast_pow]; rfl]; exact wu64 (by omega) (by omega)
 have f6 : IntKind.u64.wrap ((64 : Int) - s) = (64 : Int) - s := wu64 (by omega) (by omega)
 have f7 : ((64 : Int) - s).toNat = 64 - s := by omega
 have f8 : (lo : Int) / 2 ^ (64 - s) = (lo / 2 ^ (64 - s) : Nat) := by rw [Int.natCast_ediv, Int.natCast_pow]; rfl
 have hll : lo / 2 ^ (64 - s) ≤ lo := Nat.div_le_self _ _
 have f9 := bits_or_u64_nat (hi * 2 ^ s) (lo / 2 ^ (64 - s)) hhs (by omega)
 rw [hor] at f9
 have f10 : IntKind.u64.wrap ((lo : Int) * 2 ^ s) = v := by
  rw [IntKind.wrap_u64, show (lo : Int) * 2 ^ s = ((lo * 2 ^ s : Nat) : Int) by rw [Int.natCast_mul, Int.natCast_pow]; rfl, ← hv]; rfl
 have f11 : (v : Int) / 4294967296 = (v / 4294967296 : Nat) := rfl
 have f12 := and32 v hvl
 have f13 : (s : Int) ≤ 64 := by omega
 have f14 : (0 : Int) ≤ 64 - s := by omega
 have f15 : (64 : Int) - s ≤ 64 := by omega
 generalize Y / 4294967296 = Y1 at *
 generalize Y % 4294967296 = Y0 at *
 generalize v / 4294967296 = v1 at *
 generalize v % 4294967296 = v0 at *
 generalize hi * 2 ^ s = h' at *
 generalize lo / 2 ^ (64 - s) = l' at *
 have hYY : Y = Y1 * 4294967296 + Y0 := by omega
 have hvv : v = v1 * 4294967296 + v0 := by omega
 have hY1 : 2147483648 ≤ Y1 := by omega
 have hY1l : Y1 < 4294967296 := by omega
 have hY0 : Y0 < 4294967296 := by omega
 have hv1 : v1 < 4294967296 := by omega
 have hv0 : v0 < 4294967296 := by omega
 have hYn : ¬ (Y1 : Int) = 0 := by omega
 have hYn' : ¬ Y1 = 0 := by omega
 have huq := Nat.div_add_mod u Y1
 have hqle : u / Y1 ≤ u := Nat.div_le_self _ _
 have g1 : IntKind.u64.wrap ((u : Int) / Y1) = (u / Y1 : Nat) := by rw [← Int.natCast_ediv]; generalize u / Y1 = q at *; exact wu64 (by omega) (by omega)
 have g2 : IntKind.u64.wrap (((u / Y1 : Nat) : Int) * Y1) = (u / Y1 * Y1 : Nat) := by
  rw [Nat.mul_comm] at huq
  rw [← Int.natCast_mul]; generalize u / Y1 * Y1 = q at *; exact wu64 (by omega) (by omega)
 have g3 : IntKind.u64.wrap ((u : Int) - (u / Y1 * Y1 : Nat)) = (u % Y1 : Nat) := by
  rw [Nat.mul_comm] at huq
  generalize u / Y1 * Y1 = q at *
  generalize u % Y1 = r at *
  rw [wu64 (by omega) (by omega)]; omega
 obtain ⟨q1, hq1⟩ : ∃ q1, q1 = (u * 4294967296 + v1) / Y := ⟨_, rfl⟩
 have gA : IntKind.u64.wrap ((u : Int) - IntKind.u64.wrap ((u : Int) / Y1 * Y1)) = (u : Int) % Y1 := by
  have h1 : ((u : Int) / Y1 * Y1) = ((u / Y1 : Nat) : Int) * Y1 := by rw [Int.natCast_ediv]
  rw [h1, g2, g3, Int.natCast_emod]
 refine G0 ?_; try with_reducible exact tt
 refine CallS.pu (hlead) (R1 (fs f1 (fs f2 (fs f3 (fs f4 (fs f5 (fs f6 (fs f7 (fs f8 (fs f9 (fs f10 (fs f11 (fs f12 (fs f13 (fs f14 (fs f15 (fs hYn (fs hYn' g1))))))))))))))))) ?_); try with_reducible exact tt
 refine AW.blockCut 0 [(15, .d (.int .u64 q1))] [] (by simp) (by simp) ?_ ?_
 ·-- the half digit 15
  refine AW.loopT (α := Nat × Nat) 0 (fun a => [(15, .d (.int .u64 (a.1 : Int))), (16, .d (.int .u64 (a.2 : Int)))]) (fun _ => []) (fun a => hInv Y1 Y0 u v1 a.1 a.2) (fun a => a.1) (u / Y1, u % Y1) (by simp) (by simp) (o_oe (by omega) (by omega) (by omega)) (by simp [gA]) (by simp) ?_
  rintro ⟨q, r⟩ ⟨i1, i2, i3⟩
  simp only at i1 i2 i3
  have hqY : q * 2147483648 ≤ q * Y1 := Nat.mul_le_mul_left _ hY1
  have hend : q * Y0 ≤ r * 4294967296 + v1 → q1 = q := fun h => by rw [hq1, hYY]; exact o_n0 i1 h i2
  have hnext : (4294967296 ≤ q ∨ r * 4294967296 + v1 < q * Y0) → 0 < q ∧ (q - 1) * Y1 + (r + Y1) = u ∧ u * 4294967296 + v1 < (q - 1 + 1) * (Y1 * 4294967296 + Y0) := fun h => o_n1 i1 (by omega) (by omega) h
  have hstep : ∀ (T : List V) , (4294967296 ≤ q ∨ r * 4294967296 + v1 < q * Y0) → 0 < q ∧ hInv Y1 Y0 u v1 (q - 1) (r + Y1) ∨ (0 < q ∧ 4294967296 ≤ r + Y1 ∧ q1 = q - 1) := fun _ h => by
   obtain ⟨n1, n2, n3⟩ := hnext h
   rcases Nat.lt_or_ge (r + Y1) 4294967296 with h1 | h1
   ·exact .inl ⟨n1, n2, n3, h1⟩
   ·refine .inr ⟨n1, h1, ?_⟩
    rw [hq1, hYY]
    exact o_n0 n2 (o_n2 n2 (by omega) hY0 h1 _) n3
  have b1 : IntKind.u64.wrap ((r : Int) + Y1) = ((r + Y1 : Nat) : Int) := wu64 (by omega) (by omega)
  have body : (4294967296 ≤ q ∨ r * 4294967296 + v1 < q * Y0) → IntKind.u64.wrap ((q : Int) - 1) = ((q - 1 : Nat) : Int) := fun h => by
   have := (hnext h).1
   rw [wu64 (by omega) (by omega)]; omega
  by_cases c1 : 4294967296 ≤ q
  ·have c1' : (4294967296 : Int) ≤ q := by omega
   refine G1 c1' ?_; try with_reducible exact tt
   refine AW.cond rfl (fun h => ?_) (fun h => ?_)
   ·have e1 := body (.inl c1)
    rcases hstep [] (.inl c1) with ⟨n1, n2⟩ | ⟨n1, n2, n3⟩
    ·have n4 : ¬ (4294967296 : Int) ≤ ((r + Y1 : Nat) : Int) := by have := n2.2.2; omega
     generalize hr' : r + Y1 = r' at *
     generalize hq' : q - 1 = q' at *
     refine G1 (fs e1 (fs b1 n4)) ?_; try with_reducible exact tt
     refine AW.cond rfl (fun h => ?_) (fun h => ?_)
     ·first | (simp [n4] at h; done) | (simp [n4] at h; omega)
     refine G0 ?_; try with_reducible exact tt
     exact ⟨q', r', n2, by omega, by simp, by simp⟩
    ·have n4 : (4294967296 : Int) ≤ ((r + Y1 : Nat) : Int) := by omega
     generalize hr' : r + Y1 = r' at *
     generalize hq' : q - 1 = q' at *
     refine G1 (fs e1 (fs b1 n4)) ?_; try with_reducible exact tt
     refine AW.cond rfl (fun h => ?_) (fun h => ?_)
     ·refine AW.exit ?_
      (try (simp -implicitDefEqProofs; try simp (disch := omega) only [w64, wu64]))
      rw [n3]
      exact Sub1.refl _
     ·first | (simp at h; done) | (simp at h; omega)
   ·simp [c1'] at h
  ·have c1' : ¬ (4294967296 : Int) ≤ q := by omega
   have hqy : q * Y0 ≤ 4294967295 * 4294967295 := Nat.mul_le_mul (by omega) (by omega)
   have e1 : IntKind.u64.wrap ((q : Int) * Y0) = ((q * Y0 : Nat) : Int) := by rw [← Int.natCast_mul]; exact wu64 (by omega) (by omega)
   have e2 : IntKind.u64.wrap (4294967296 * (r : Int)) = ((4294967296 * r : Nat) : Int) := wu64 (by omega) (by omega)
   have e3 : IntKind.u64.wrap (((4294967296 * r : Nat) : Int) + v1) = ((4294967296 * r + v1 : Nat) : Int) := wu64 (by omega) (by omega)
   by_cases c2 : r * 4294967296 + v1 < q * Y0
   ·have c2' : ((4294967296 * r + v1 : Nat) : Int) < ((q * Y0 : Nat) : Int) := by omega
    have e4 := body (.inr c2)
    have hs := hstep [] (.inr c2)
    clear hend hnext hstep body
    generalize q * Y0 = m at *
    generalize 4294967296 * r = m2 at *
    generalize m2 + v1 = m3 at *
    refine G1 (fs c1' (fs e1 (fs e2 (fs e3 c2')))) ?_; try with_reducible exact tt
    refine AW.cond rfl (fun h => ?_) (fun h => ?_)
    ·rcases hs with ⟨n1, n2⟩ | ⟨n1, n2, n3⟩
     ·have n4 : ¬ (4294967296 : Int) ≤ ((r + Y1 : Nat) : Int) := by have := n2.2.2; omega
      generalize hr' : r + Y1 = r' at *
      generalize hq' : q - 1 = q' at *
      refine G1 (fs e4 (fs b1 n4)) ?_; try with_reducible exact tt
      refine AW.cond rfl (fun h => ?_) (fun h => ?_)
      ·first | (simp at h; done) | (simp at h; omega)
      refine G0 ?_; try with_reducible exact tt
      exact ⟨q', r', n2, by omega, by simp, by simp⟩
     ·have n4 : (4294967296 : Int) ≤ ((r + Y1 : Nat) : Int) := by omega
      generalize hr' : r + Y1 = r' at *
      generalize hq' : q - 1 = q' at *
      refine G1 (fs e4 (fs b1 n4)) ?_; try with_reducible exact tt
      refine AW.cond rfl (fun h => ?_) (fun h => ?_)
      ·refine AW.exit ?_
       (try (simp -implicitDefEqProofs; try simp (disch := omega) only [w64, wu64]))
       rw [n3]
       exact Sub1.refl _
      ·first | (simp at h; done) | (simp at h; omega)
    ·first | (simp at h; done) | (simp at h; omega)
   ·have c2' : ¬ ((4294967296 * r + v1 : Nat) : Int) < ((q * Y0 : Nat) : Int) := by omega
    have e4 := hend (by omega)
    clear hend hnext hstep body
    generalize q * Y0 = m at *
    generalize 4294967296 * r = m2 at *
    generalize m2 + v1 = m3 at *
    refine G1 (fs c1' (fs e1 (fs e2 (fs e3 c2')))) ?_; try with_reducible exact tt
    refine AW.cond rfl (fun h => ?_) (fun h => ?_)
    ·first | (simp at h; done) | (simp at h; omega)
    ·refine AW.exit ?_
     (try (simp -implicitDefEqProofs; try simp (disch := omega) only [w64, wu64]))
     rw [e4]
     exact Sub1.refl _
 obtain ⟨r1, hr1⟩ : ∃ r1, r1 = u * 4294967296 + v1 - q1 * Y := ⟨_, rfl⟩
 have hd := Nat.div_add_mod (u * 4294967296 + v1) Y
 have hm := Nat.mod_lt (u * 4294967296 + v1) (show Y > 0 by omega)
 rw [← hq1, Nat.mul_comm] at hd
 have hr1l : r1 < Y := by omega
 have hq1l : q1 < 4294967296 := by
  rw [hq1, Nat.div_lt_iff_lt_mul (by omega)]
  omega
 have p1 : IntKind.u64.wrap ((u : Int) * 4294967296) = (u * 4294967296 % 18446744073709551616 : Nat) := by rw [IntKind.wrap_u64]; rfl
 have p2 : IntKind.u64.wrap (((u * 4294967296 % 18446744073709551616 : Nat) : Int) + v1) = ((u * 4294967296 + v1) % 18446744073709551616 : Nat) := by rw [IntKind.wrap_u64]; omega
 have p3 : IntKind.u64.wrap ((q1 : Int) * Y) = (q1 * Y % 18446744073709551616 : Nat) := by rw [IntKind.wrap_u64, ← Int.natCast_mul]; rfl
 have p4 : IntKind.u64.wrap (((((u * 4294967296 + v1) % 18446744073709551616 : Nat)) : Int) - (q1 * Y % 18446744073709551616 : Nat)) = (r1 : Int) := by
  rw [IntKind.wrap_u64]
  generalize q1 * Y = m at *
  omega
 have hrq := Nat.div_add_mod r1 Y1
 have hrle : r1 / Y1 ≤ r1 := Nat.div_le_self _ _
 have g1' : IntKind.u64.wrap ((r1 : Int) / Y1) = (r1 / Y1 : Nat) := by rw [← Int.natCast_ediv]; generalize r1 / Y1 = q at *; exact wu64 (by omega) (by omega)
 have g2' : IntKind.u64.wrap (((r1 / Y1 : Nat) : Int) * Y1) = (r1 / Y1 * Y1 : Nat) := by
  rw [Nat.mul_comm] at hrq
  rw [← Int.natCast_mul]; generalize r1 / Y1 * Y1 = q at *; exact wu64 (by omega) (by omega)
 have g3' : IntKind.u64.wrap ((r1 : Int) - (r1 / Y1 * Y1 : Nat)) = (r1 % Y1 : Nat) := by
  rw [Nat.mul_comm] at hrq
  generalize r1 / Y1 * Y1 = q at *
  generalize r1 % Y1 = r at *
  rw [wu64 (by omega) (by omega)]; omega
 have gA' : IntKind.u64.wrap ((r1 : Int) - IntKind.u64.wrap ((r1 : Int) / Y1 * Y1)) = (r1 : Int) % Y1 := by
  have h1 : ((r1 : Int) / Y1 * Y1) = ((r1 / Y1 : Nat) : Int) * Y1 := by rw [Int.natCast_ediv]
  rw [h1, g2', g3', Int.natCast_emod]
 have hp := halves' (y := Y) (a := u * 4294967296 + v1) (b := 4294967296) (v0 := v0) (q1 := q1) (q0 := (r1 * 4294967296 + v0) / Y) (by omega) hq1.symm (by rw [← hr1])
 rw [← hr1] at hp
 obtain ⟨q0, hq0⟩ : ∃ q0, q0 = (r1 * 4294967296 + v0) / Y := ⟨_, rfl⟩
 rw [← hq0] at hp
 rw [show u * 18446744073709551616 + v = (u * 4294967296 + v1) * 4294967296 + v0 by omega] at hQf hRf
 rw [hp.1] at hQf
 rw [hp.2] at hRf
 have hd0 := Nat.div_add_mod (r1 * 4294967296 + v0) Y
 have hm0 := Nat.mod_lt (r1 * 4294967296 + v0) (show Y > 0 by omega)
 rw [← hq0, Nat.mul_comm] at hd0
 obtain ⟨r0, hr0⟩ : ∃ r0, r0 = r1 * 4294967296 + v0 - q0 * Y := ⟨_, rfl⟩
 rw [← hr0] at hRf
 have hq0l : q0 < 4294967296 := by
  rw [hq0, Nat.div_lt_iff_lt_mul (by omega)]
  omega
 have s1 : IntKind.u64.wrap ((r1 : Int) * 4294967296) = (r1 * 4294967296 % 18446744073709551616 : Nat) := by rw [IntKind.wrap_u64]; rfl
 have s2 : IntKind.u64.wrap (((r1 * 4294967296 % 18446744073709551616 : Nat) : Int) + v0) = ((r1 * 4294967296 + v0) % 18446744073709551616 : Nat) := by rw [IntKind.wrap_u64]; omega
 have s3 : IntKind.u64.wrap ((q0 : Int) * Y) = (q0 * Y % 18446744073709551616 : Nat) := by rw [IntKind.wrap_u64, ← Int.natCast_mul]; rfl
 have s4 : IntKind.u64.wrap (((((r1 * 4294967296 + v0) % 18446744073709551616 : Nat)) : Int) - (q0 * Y % 18446744073709551616 : Nat)) = (r0 : Int) := by
  rw [IntKind.wrap_u64]
  generalize q0 * Y = m at *
  omega
 have s5 : IntKind.u64.wrap ((q1 : Int) * 4294967296) = (q1 * 4294967296 : Nat) := wu64 (by omega) (by omega)
 have s6 : IntKind.u64.wrap (((q1 * 4294967296 : Nat) : Int) + q0) = (q1 * 4294967296 + q0 : Nat) := wu64 (by omega) (by omega)
 have s7 : (r0 : Int) / 2 ^ s = (r0 / 2 ^ s : Nat) := by rw [Int.natCast_ediv, Int.natCast_pow]; rfl
 rw [← hRf] at s7
 rw [← hQf] at s6
 clear hp hd hm hr1 hq1 hr0 hd0 hm0 hRf hQf
 obtain ⟨t3, ht3⟩ : ∃ t, t = q1 * Y % 18446744073709551616 := ⟨_, rfl⟩
 rw [← ht3] at p3 p4
 obtain ⟨t2, ht2⟩ : ∃ t, t = (u * 4294967296 + v1) % 18446744073709551616 := ⟨_, rfl⟩
 rw [← ht2] at p2 p4
 obtain ⟨t1, ht1⟩ : ∃ t, t = u * 4294967296 % 18446744073709551616 := ⟨_, rfl⟩
 rw [← ht1] at p1 p2
 clear ht1 ht2 ht3
 simp
 repeat (first | refine AW.seq ?_ | refine AW.block ?_ | (refine AW.reg mix ?_; simp -implicitDefEqProofs [p1, p2, p3, p4, hYn, hYn', g1']; try simp (disch := omega) only [w64, wu64]) | (refine need.of (by first | omega | kernel_rfl) ?_) | (refine AW.fin ?_; try simp -implicitDefEqProofs [p1, p2, p3, p4, hYn, hYn', g1']))
 refine AW.blockCut 0 [(18, .d (.int .u64 q0))] [] (by simp) (by simp) ?_ ?_
 ·-- the other half digit
  refine AW.loopT (α := Nat × Nat) 0 (fun a => [(18, .d (.int .u64 (a.1 : Int))), (16, .d (.int .u64 (a.2 : Int)))]) (fun _ => []) (fun a => hInv Y1 Y0 r1 v0 a.1 a.2) (fun a => a.1) (r1 / Y1, r1 % Y1) (by simp) (by simp) (o_oe (by omega) (by omega) (by omega)) (by simp [gA']) (by simp) ?_
  rintro ⟨q, r⟩ ⟨i1, i2, i3⟩
  simp only at i1 i2 i3
  have hqY : q * 2147483648 ≤ q * Y1 := Nat.mul_le_mul_left _ hY1
  have hend : q * Y0 ≤ r * 4294967296 + v0 → q0 = q := fun h => by rw [hq0, hYY]; exact o_n0 i1 h i2
  have hnext : (4294967296 ≤ q ∨ r * 4294967296 + v0 < q * Y0) → 0 < q ∧ (q - 1) * Y1 + (r + Y1) = r1 ∧ r1 * 4294967296 + v0 < (q - 1 + 1) * (Y1 * 4294967296 + Y0) := fun h => o_n1 i1 (by omega) (by omega) h
  have hstep : ∀ (T : List V) , (4294967296 ≤ q ∨ r * 4294967296 + v0 < q * Y0) → 0 < q ∧ hInv Y1 Y0 r1 v0 (q - 1) (r + Y1) ∨ (0 < q ∧ 4294967296 ≤ r + Y1 ∧ q0 = q - 1) := fun _ h => by
   obtain ⟨n1, n2, n3⟩ := hnext h
   rcases Nat.lt_or_ge (r + Y1) 4294967296 with h1 | h1
   ·exact .inl ⟨n1, n2, n3, h1⟩
   ·refine .inr ⟨n1, h1, ?_⟩
    rw [hq0, hYY]
    exact o_n0 n2 (o_n2 n2 (by omega) hY0 h1 _) n3
  have b1 : IntKind.u64.wrap ((r : Int) + Y1) = ((r + Y1 : Nat) : Int) := wu64 (by omega) (by omega)
  have body : (4294967296 ≤ q ∨ r * 4294967296 + v0 < q * Y0) → IntKind.u64.wrap ((q : Int) - 1) = ((q - 1 : Nat) : Int) := fun h => by
   have := (hnext h).1
   rw [wu64 (by omega) (by omega)]; omega
  by_cases c1 : 4294967296 ≤ q
  ·have c1' : (4294967296 : Int) ≤ q := by omega
   refine G1 c1' ?_; try with_reducible exact tt
   refine AW.cond rfl (fun h => ?_) (fun h => ?_)
   ·have e1 := body (.inl c1)
    rcases hstep [] (.inl c1) with ⟨n1, n2⟩ | ⟨n1, n2, n3⟩
    ·have n4 : ¬ (4294967296 : Int) ≤ ((r + Y1 : Nat) : Int) := by have := n2.2.2; omega
     generalize hr' : r + Y1 = r' at *
     generalize hq' : q - 1 = q' at *
     refine G1 (fs e1 (fs b1 n4)) ?_; try with_reducible exact tt
     refine AW.cond rfl (fun h => ?_) (fun h => ?_)
     ·first | (simp [n4] at h; done) | (simp [n4] at h; omega)
     refine G0 ?_; try with_reducible exact tt
     exact ⟨q', r', n2, by omega, by simp, by simp⟩
    ·have n4 : (4294967296 : Int) ≤ ((r + Y1 : Nat) : Int) := by omega
     generalize hr' : r + Y1 = r' at *
     generalize hq' : q - 1 = q' at *
     refine G1 (fs e1 (fs b1 n4)) ?_; try with_reducible exact tt
     refine AW.cond rfl (fun h => ?_) (fun h => ?_)
     ·refine AW.exit ?_
      (try (simp -implicitDefEqProofs; try simp (disch := omega) only [w64, wu64]))
      rw [n3]
      exact Sub1.refl _
     ·first | (simp at h; done) | (simp at h; omega)
   ·simp [c1'] at h
  ·have c1' : ¬ (4294967296 : Int) ≤ q := by omega
   have hqy : q * Y0 ≤ 4294967295 * 4294967295 := Nat.mul_le_mul (by omega) (by omega)
   have e1 : IntKind.u64.wrap ((q : Int) * Y0) = ((q * Y0 : Nat) : Int) := by rw [← Int.natCast_mul]; exact wu64 (by omega) (by omega)
   have e2 : IntKind.u64.wrap (4294967296 * (r : Int)) = ((4294967296 * r : Nat) : Int) := wu64 (by omega) (by omega)
   have e3 : IntKind.u64.wrap (((4294967296 * r : Nat) : Int) + v0) = ((4294967296 * r + v0 : Nat) : Int) := wu64 (by omega) (by omega)
   by_cases c2 : r * 4294967296 + v0 < q * Y0
   ·have c2' : ((4294967296 * r + v0 : Nat) : Int) < ((q * Y0 : Nat) : Int) := by omega
    have e4 := body (.inr c2)
    have hs := hstep [] (.inr c2)
    clear hend hnext hstep body
    generalize q * Y0 = m at *
    generalize 4294967296 * r = m2 at *
    generalize m2 + v0 = m3 at *
    refine G1 (fs c1' (fs e1 (fs e2 (fs e3 c2')))) ?_; try with_reducible exact tt
    refine AW.cond rfl (fun h => ?_) (fun h => ?_)
    ·rcases hs with ⟨n1, n2⟩ | ⟨n1, n2, n3⟩
     ·have n4 : ¬ (4294967296 : Int) ≤ ((r + Y1 : Nat) : Int) := by have := n2.2.2; omega
      generalize hr' : r + Y1 = r' at *
      generalize hq' : q - 1 = q' at *
      refine G1 (fs e4 (fs b1 n4)) ?_; try with_reducible exact tt
      refine AW.cond rfl (fun h => ?_) (fun h => ?_)
      ·first | (simp at h; done) | (simp at h; omega)
      refine G0 ?_; try with_reducible exact tt
      exact ⟨q', r', n2, by omega, by simp, by simp⟩
     ·have n4 : (4294967296 : Int) ≤ ((r + Y1 : Nat) : Int) := by omega
      generalize hr' : r + Y1 = r' at *
      generalize hq' : q - 1 = q' at *
      refine G1 (fs e4 (fs b1 n4)) ?_; try with_reducible exact tt
      refine AW.cond rfl (fun h => ?_) (fun h => ?_)
      ·refine AW.exit ?_
       (try (simp -implicitDefEqProofs; try simp (disch := omega) only [w64, wu64]))
       rw [n3]
       exact Sub1.refl _
      ·first | (simp at h; done) | (simp at h; omega)
    ·first | (simp at h; done) | (simp at h; omega)
   ·have c2' : ¬ ((4294967296 * r + v0 : Nat) : Int) < ((q * Y0 : Nat) : Int) := by omega
    have e4 := hend (by omega)
    clear hend hnext hstep body
    generalize q * Y0 = m at *
    generalize 4294967296 * r = m2 at *
    generalize m2 + v0 = m3 at *
    refine G1 (fs c1' (fs e1 (fs e2 (fs e3 c2')))) ?_; try with_reducible exact tt
    refine AW.cond rfl (fun h => ?_) (fun h => ?_)
    ·first | (simp at h; done) | (simp at h; omega)
    ·refine AW.exit ?_
     (try (simp -implicitDefEqProofs; try simp (disch := omega) only [w64, wu64]))
     rw [e4]
     exact Sub1.refl _
 clear hq0
 obtain ⟨t6, ht6⟩ : ∃ t, t = q0 * Y % 18446744073709551616 := ⟨_, rfl⟩
 rw [← ht6] at s3 s4
 obtain ⟨t5, ht5⟩ : ∃ t, t = (r1 * 4294967296 + v0) % 18446744073709551616 := ⟨_, rfl⟩
 rw [← ht5] at s2 s4
 obtain ⟨t4, ht4⟩ : ∃ t, t = r1 * 4294967296 % 18446744073709551616 := ⟨_, rfl⟩
 rw [← ht4] at s1 s2
 obtain ⟨t7, ht7⟩ : ∃ t, t = q1 * 4294967296 := ⟨_, rfl⟩
 rw [← ht7] at s5 s6
 clear ht4 ht5 ht6 ht7
 simp
 refine G1 (fs s1 (fs s2 (fs s3 (fs s4 (fs s5 (fs s6 (fs s7 f13))))))) ?_; try with_reducible exact tt
end
section
open Go.RowKit
theorem o_og : ∀ (ws : List Nat) (j v : Nat), j < ws.length → wval (ws.set j v) + 18446744073709551616 ^ j * ws.getD j 0 = wval ws + 18446744073709551616 ^ j * v
 | [], j, v, h => by simp at h
 | x :: l, 0, v, h => by simp [wval]; omega
 | x :: l, j + 1, v, h => by
  have ih := o_og l j v (by simpa using h)
  simp only [List.set_cons_succ, wval, Nat.pow_succ, List.getD_cons_succ]
  have e : ∀ z, 18446744073709551616 ^ j * 18446744073709551616 * z = 18446744073709551616 * (18446744073709551616 ^ j * z) := fun z => by
   rw [Nat.mul_right_comm, Nat.mul_comm]
  rw [e, e]
  omega
theorem o_oh {ws : List Nat} (h : small ws) (j v : Nat) (hv : v < 18446744073709551616) : small (ws.set j v) := by
 intro x hx
 rcases List.mem_or_eq_of_mem_set hx with hx | rfl
 ·exact h x hx
 ·exact hv
def uW (ws : List Nat) : List V := U ws
theorem o_oi (ws : List Nat) : (uW ws).length = ws.length := by simp [uW, U]
theorem o_oj {ws : List Nat} {j : Nat} (h : j < ws.length) : (uW ws)[j]? = some (.d (.int .u64 (ws.getD j 0 : Nat))) := by
 simp [uW, U, List.getD, h]
theorem o_ok (ws : List Nat) (j v : Nat) : (uW ws).set j (.d (.int .u64 v)) = uW (ws.set j v) := by simp [uW, U, List.map_set]
theorem o_ol (n : Nat) (ws : List Nat) : V.lowl n (uW ws) = true := o_lk n ws

theorem o_om {vn v z1 z2 p b xy o c l2 h2 : Nat} (hs2 : vn + p * o = v + p * l2) (hv : v + p * c = z2 + z1) (htot : xy + o + c = l2 + b * h2) : vn + p * b * h2 = z2 + (z1 + p * xy) := by
 have e2 := congrArg (p * ·) htot
 simp only [Nat.mul_add] at e2
 rw [← Nat.mul_assoc] at e2
 omega
set_option maxHeartbeats 4000000 in
theorem o_on (m n : Nat) (hm : size m ≤ 1000000) (hn : size n ≤ 1000000) : Eqn Tryz.prog o_9a [.d (.agg [natW m]), .d (.agg [natW n])] [] (.d (.agg [natW (m * n)])) [] := by
 refine Eqn.pure o_9c (o_58 _) ?_
 unfold size at hm hn
 rw [← o_kj m, ← o_kj n]
 have hsA := o_kk m
 have hsB := o_kk n
 rw [show natW (wval (words m)) = W (words m) by rw [o_kj]; rfl, show natW (wval (words n)) = W (words n) by rw [o_kj]; rfl]
 generalize words m = A at *
 generalize words n = B at *
 simp only [o_9b, W]
 have hlen : ((A.length : Int) + B.length).toNat = A.length + B.length := by omega
 refine G1 hlen ?_; try with_reducible exact tt
 rw [show List.replicate (A.length + B.length) (V.d (.int .u64 0)) = uW (List.replicate (A.length + B.length) 0) by simp [uW, U]]
 refine AW.loopT (α := Nat × List Nat) 4 (fun s => [(25, .d (.int .i64 (s.1 : Int)))]) (fun s => [(3, ⟨194, uW s.2⟩)]) (fun s => s.1 ≤ A.length ∧ s.2.length = A.length + B.length ∧ small s.2 ∧ wval s.2 = wval (A.take s.1) * wval B ∧ ∀ j, s.1 + B.length ≤ j → s.2.getD j 0 = 0) (fun s => A.length - s.1) (0, List.replicate (A.length + B.length) 0) ?_ ?_ ?_ ?_ ?_ ?_
 ·simp
 ·simp
 ·refine ⟨Nat.zero_le _, by simp, fun x hx => by rw [List.eq_of_mem_replicate hx]; omega, by simp [o_jn, wval], fun j _ => ?_⟩
  simp [List.getD, List.getElem?_replicate]
  split <;> rfl
 ·simp
 ·simp [o_ol]
 rintro ⟨i, ws⟩ ⟨hi, hl, hs, hv, hz⟩
 simp only at hi hl hs hv hz
 simp
 by_cases h : i = A.length
 ·subst h
  rw [List.take_length] at hv
  refine G0 ?_; try with_reducible exact tt
  refine AW.cond rfl (fun h => ?_) (fun h => ?_)
  ·simp at h
  refine AW.exit ?_
  (try (simp -implicitDefEqProofs; try simp (disch := omega) only [w64, wu64]))
  have hcell : uW ws = (ws.map fun x : Nat => D.int .u64 x).map V.d := by simp [uW, U]
  rw [hcell]
  refine AW.freeze 3 1 ⟨194, _⟩ (ws.map fun x : Nat => .int .u64 x) (by rfl) (by rfl) ?_
  simp [← hl, List.take_of_length_le]
  refine G0 ?_; try with_reducible exact tt
  refine CallS.pu (o_ks ws hs (by omega)) (R0 ?_); try with_reducible exact tt
  refine Sub1.of ?_
  rw [hv]
 ·have hi' : i < A.length := by omega
  have hp : (i : Int) < A.length := by omega
  refine G1 (fs hi' hp) ?_; try with_reducible exact tt
  refine AW.cond rfl (fun h => ?_) (fun h => ?_)
  ·refine G1 (fs hi' hp) ?_; try with_reducible exact tt
   have hwA : A[i] = A.getD i 0 := o_kr hi'
   have hx : A[i] < 18446744073709551616 := hsA _ (List.getElem_mem _)
   generalize A[i] = x at hwA hx ⊢
   refine AW.loopT (α := Nat × Nat × List Nat) 4 (fun s => [(33, .d (.int .i64 (s.1 : Int))), (8, .d (.int .u64 (s.2.1 : Int)))]) (fun s => [(3, ⟨194, uW s.2.2⟩)]) (fun s => s.1 ≤ B.length ∧ s.2.1 < 18446744073709551616 ∧ s.2.2.length = A.length + B.length ∧ small s.2.2 ∧ wval s.2.2 + 18446744073709551616 ^ (i + s.1) * s.2.1 = wval (A.take i) * wval B + 18446744073709551616 ^ i * (x * wval (B.take s.1)) ∧ ∀ j, i + B.length ≤ j → s.2.2.getD j 0 = 0) (fun s => B.length - s.1) (0, 0, ws) ?_ ?_ ⟨Nat.zero_le _, by simp, hl, hs, by simp [hv, wval], hz⟩ ?_ ?_ ?_
   ·simp
   ·simp
   ·simp
   ·simp [o_ol]
   clear hl hs hv hz
   rintro ⟨k, c, ws'⟩ ⟨hk, hc, hl, hs, hv, hz⟩
   simp only at hk hc hl hs hv hz
   simp
   have hlen' : ((i : Int) + B.length).toNat = i + B.length := by omega
   have ew : IntKind.i64.wrap ((i : Int) + B.length) = ((i + B.length : Nat) : Int) := w64 (by omega) (by omega)
   have eu := o_oi ws'
   have eset := fun j v => o_ok ws' j v
   by_cases hkl : k = B.length
   ·subst hkl
    rw [List.take_length] at hv
    refine G0 ?_; try with_reducible exact tt
    refine AW.cond rfl (fun h => ?_) (fun h => ?_)
    ·simp at h
    have hg : (uW ws').length = A.length + B.length := by rw [eu]; exact hl
    have e2 : IntKind.i64.wrap ((i : Int) + 1) = (i : Int) + 1 := w64 (by omega) (by omega)
    refine G1 (fs hg (fs eset e2)) ?_; try with_reducible exact tt
    refine ⟨i + 1, ws'.set (i + B.length) c, ⟨hi', by simp [hl], o_oh hs _ _ hc, ?_, fun j hj => ?_⟩, by omega, by simp, by rw [hlen']; simp, o_ol _ _⟩
    ·have h1 := o_og ws' (i + B.length) c (by omega)
     rw [hz _ (Nat.le_refl _), Nat.mul_zero, Nat.add_zero] at h1
     rw [h1, hv, o_k7, Nat.add_mul, hwA, Nat.mul_assoc]
    ·have h1 := hz j (by omega)
     rw [List.getD] at h1
     rw [List.getElem?_set_ne (by omega)]
     exact h1
   ·have hk' : k < B.length := by omega
    have hkp : (k : Int) < B.length := by omega
    refine G1 (fs hk' hkp) ?_; try with_reducible exact tt
    refine AW.cond rfl (fun h => ?_) (fun h => ?_)
    ·have hy : B[k] < 18446744073709551616 := hsB _ (List.getElem_mem _)
     have hwB : B[k] = B.getD k 0 := o_kr hk'
     have hg : (uW ws').length = A.length + B.length := by rw [eu]; exact hl
     have hik : i + k < ws'.length := by omega
     have hik2 : ((i : Int) + k).toNat = i + k := by omega
     have ewk : IntKind.i64.wrap ((i : Int) + k) = (i : Int) + k := w64 (by omega) (by omega)
     have hgo := o_oj hik
     have ho := hs.getD (i + k)
     have hset := fun v => o_og ws' (i + k) v hik
     generalize hO : ws'.getD (i + k) 0 = o at hgo ho hset
     have e2 : IntKind.i64.wrap ((k : Int) + 1) = (k : Int) + 1 := w64 (by omega) (by omega)
     refine G1 (fs hk' hkp) ?_; try with_reducible exact tt
     generalize B[k] = y at hy hwB ⊢
     have hmul := o_oc x y hx hy
     have l0 : x * y % 18446744073709551616 < 18446744073709551616 := Nat.mod_lt _ (by decide)
     have hxy : x * y ≤ 18446744073709551615 * 18446744073709551615 := Nat.mul_le_mul (by omega) (by omega)
     have hdm := Nat.div_add_mod (x * y) 18446744073709551616
     obtain ⟨hi', hhi⟩ : ∃ q, q = x * y / 18446744073709551616 := ⟨_, rfl⟩
     obtain ⟨lo, hlo⟩ : ∃ q, q = x * y % 18446744073709551616 := ⟨_, rfl⟩
     obtain ⟨xy, hxyd⟩ : ∃ q, q = x * y := ⟨_, rfl⟩
     rw [← hhi, ← hlo] at hmul
     rw [← hlo] at l0
     rw [← hhi, ← hlo, ← hxyd] at hdm
     rw [← hxyd] at hxy
     obtain ⟨l1, k1, hl1, hll1, hk1⟩ : ∃ l1 k1 : Nat, lo + o + 0 = l1 + 18446744073709551616 * k1 ∧ l1 < 18446744073709551616 ∧ k1 ≤ 1 := ⟨(lo + o) % 18446744073709551616, (lo + o) / 18446744073709551616, by omega, by omega, by omega⟩
     obtain ⟨l2, k2, hl2, hll2, hk2⟩ : ∃ l2 k2 : Nat, l1 + c + 0 = l2 + 18446744073709551616 * k2 ∧ l2 < 18446744073709551616 ∧ k2 ≤ 1 := ⟨(l1 + c) % 18446744073709551616, (l1 + c) / 18446744073709551616, by omega, by omega, by omega⟩
     have htot : xy + o + c = l2 + 18446744073709551616 * (hi' + k1 + k2) := by omega
     have hhl : hi' + k1 + k2 < 18446744073709551616 := by omega
     have w1 : IntKind.u64.wrap ((hi' : Int) + k1) = ((hi' + k1 : Nat) : Int) := wu64 (by omega) (by omega)
     have w2 : IntKind.u64.wrap (((hi' + k1 : Nat) : Int) + k2) = ((hi' + k1 + k2 : Nat) : Int) := wu64 (by omega) (by omega)
     clear hhi hlo
     refine CallS.pu (hmul) (R1 (fs hg (fs hgo (fs hik2 ewk))) ?_); try with_reducible exact tt
     generalize hi' + k1 = h1 at *
     generalize h1 + k2 = h2 at *
     refine CallS.pu (o_kx lo o 0 l1 k1 l0 ho (by omega) hll1 hl1) (R1 w1 ?_); try with_reducible exact tt
     refine CallS.pu (o_kx l1 c 0 l2 k2 hll1 hc (by omega) hll2 hl2) (R1 (fs w2 (fs hg (fs hik2 (fs ewk (fs eset e2))))) ?_); try with_reducible exact tt
     refine ⟨k + 1, h2, ws'.set (i + k) l2, ⟨hk', hhl, by simpa using hl, o_oh hs _ _ hll2, ?_, fun j hj => ?_⟩, by omega, by simp, Subs.refl _, o_ol _ _⟩
     ·have hs2 := hset l2
      have e1 : x * wval (B.take (k + 1)) = x * wval (B.take k) + 18446744073709551616 ^ k * xy := by
       rw [o_k7, ← hwB, Nat.mul_add, hxyd]
       congr 1
       rw [← Nat.mul_assoc, Nat.mul_comm x, Nat.mul_assoc]
      rw [e1, Nat.mul_add, ← Nat.mul_assoc (18446744073709551616 ^ i) (18446744073709551616 ^ k) xy, ← Nat.pow_add, ← Nat.add_assoc i k 1, Nat.pow_succ]
      exact o_om hs2 hv htot
     ·have h1 := hz j hj
      rw [← List.getD_eq_getElem?_getD]
      rw [List.getD] at h1 ⊢
      rw [List.getElem?_set_ne (by omega)]
      exact h1
    ·simp [hk'] at h
  ·simp [hi'] at h
end
section
open Go.RowKit
theorem o_oo {x n m : Nat} (h : x < 2 ^ n) (hm : n ≤ 64 * m) : size x ≤ m := by
 apply o_k5 (o_kl x)
 rw [o_kj, show (18446744073709551616 : Nat) = 2 ^ 64 by rfl, ← Nat.pow_mul]
 exact Nat.lt_of_lt_of_le h (Nat.pow_le_pow_right (by omega) hm)
def splitW (y : Nat) : List Nat → List Nat × Nat
 | [] => ([], 0)
 | x :: l => (((splitW y l).2 * 18446744073709551616 + x) / y :: (splitW y l).1, ((splitW y l).2 * 18446744073709551616 + x) % y)
theorem o_op {y : Nat} (h0 : 0 < y) : ∀ {l : List Nat}, small l → wval l = wval (splitW y l).1 * y + (splitW y l).2 ∧ (splitW y l).2 < y ∧ small (splitW y l).1 ∧ (splitW y l).1.length = l.length
 | [], _ => ⟨by simp [splitW, wval], h0, by simp [small, splitW], rfl⟩
 | x :: l, h => by
  have hx := h x (by simp)
  obtain ⟨h1, h2, h3, h4⟩ := o_op h0 (l := l) (fun z hz => h z (by simp [hz]))
  simp only [splitW, wval, List.length_cons, h4]
  generalize splitW y l = s at *
  obtain ⟨Q, r⟩ := s
  simp only at *
  have hd := Nat.div_add_mod (r * 18446744073709551616 + x) y
  have hm := Nat.mod_lt (r * 18446744073709551616 + x) h0
  have hq : (r * 18446744073709551616 + x) / y < 18446744073709551616 := by
   rw [Nat.div_lt_iff_lt_mul h0]
   have : (r + 1) * 18446744073709551616 ≤ y * 18446744073709551616 := Nat.mul_le_mul_right _ h2
   omega
  refine ⟨?_, hm, ?_, trivial⟩
  ·rw [Nat.mul_comm y] at hd
   have e : 18446744073709551616 * (wval Q * y + r) = 18446744073709551616 * wval Q * y + r * 18446744073709551616 := by rw [Nat.mul_add, Nat.mul_assoc, Nat.mul_comm r]
   rw [h1, e, Nat.add_mul]
   obtain ⟨z, hz⟩ : ∃ z, z = (r * 18446744073709551616 + x) % y := ⟨_, rfl⟩
   obtain ⟨z2, hz2⟩ : ∃ z, z = (r * 18446744073709551616 + x) / y * y := ⟨_, rfl⟩
   obtain ⟨z3, hz3⟩ : ∃ z, z = 18446744073709551616 * wval Q * y := ⟨_, rfl⟩
   rw [← hz, ← hz2] at hd
   rw [← hz, ← hz2, ← hz3]
   omega
  ·intro z hz
   rcases List.mem_cons.1 hz with rfl | hz
   ·exact hq
   ·exact h3 z hz

theorem o_oq {y : Nat} (h0 : 0 < y) {l : List Nat} (h : small l) : wval (splitW y l).1 = wval l / y ∧ (splitW y l).2 = wval l % y := by
 obtain ⟨h1, h2, _, _⟩ := o_op h0 h
 rw [h1]
 constructor
 ·rw [Nat.mul_comm, Nat.mul_add_div h0, Nat.div_eq_of_lt h2, Nat.add_zero]
 ·rw [Nat.mul_comm, Nat.mul_add_mod]; exact (Nat.mod_eq_of_lt h2).symm

def splitC (y : Nat) (ws : List Nat) (k : Nat) : List V := U (List.replicate k 0 ++ (splitW y (ws.drop k)).1)
theorem o_or {y : Nat} (h0 : 0 < y) {ws : List Nat} (hs : small ws) {k : Nat} (hk : k ≤ ws.length) : (splitC y ws k).length = ws.length := by
 have := (o_op h0 (l := ws.drop k) (fun x hx => hs x (List.mem_of_mem_drop hx))).2.2.2
 simp [splitC, U, this]; omega

set_option maxHeartbeats 2000000 in
theorem o_os (ws : List Nat) (y : Nat) (hs : small ws) (hn : ws.length ≤ 1000000) (h0 : 0 < y) (hy : y < 18446744073709551616) : Eqn Tryz.prog o_ci [.d (W ws), .d (.int .u64 y)] [] (.tup [.d (W (splitW y ws).1), .d (.int .u64 (splitW y ws).2)]) [] := by
 refine Eqn.pure o_ck (o_l8 _ _) ?_
 simp only [o_cj, W]
 have hlen := (o_op h0 hs).2.2.2
 rw [hlen]
 have hlowC : ∀ k, V.lowl 1 (splitC y ws k) = true := fun k => o_lk 1 _
 refine G0 ?_; try with_reducible exact tt
 rw [show List.replicate ws.length (V.d (.int .u64 0)) = splitC y ws ws.length by simp [splitC, U, splitW]]
 refine AW.loopT (α := Nat) 1 (fun k => [(8, .d (.int .i64 ((k : Int) - 1))), (7, .d (.int .u64 ((splitW y (ws.drop k)).2 : Nat)))]) (fun k => [(0, ⟨194, splitC y ws k⟩)]) (fun k => k ≤ ws.length) (fun k => k) ws.length ?_ ?_ (Nat.le_refl _) ?_ ?_ ?_
 ·simp
 ·simp
 ·simp [splitW]
 ·simp [hlowC]
 rintro k hk
 simp
 cases k with
 | zero =>
  refine G0 ?_; try with_reducible exact tt
  refine AW.cond rfl (fun h => ?_) (fun h => ?_)
  ·simp at h
  refine AW.exit ?_
  (try (simp -implicitDefEqProofs; try simp (disch := omega) only [w64, wu64]))
  rw [show splitC y ws 0 = ((splitW y ws).1.map fun x : Nat => D.int .u64 x).map V.d by simp [splitC, U]]
  refine AW.freeze 0 1 ⟨194, _⟩ ((splitW y ws).1.map fun x : Nat => .int .u64 x) (by rfl) (by rfl) ?_
  simp [← hlen, List.take_of_length_le]
  refine G0 ?_; try with_reducible exact tt
 | succ k =>
  have hk' : k < ws.length := hk
  have hdrop : ws.drop k = ws[k] :: ws.drop (k + 1) := List.drop_eq_getElem_cons hk'
  obtain ⟨i1, i2, i3, i4⟩ := o_op h0 (l := ws.drop (k + 1)) (fun x hx => hs x (List.mem_of_mem_drop hx))
  have hl := o_or h0 hs hk
  have hset : (splitC y ws (k + 1)).set k (.d (.int .u64 (((splitW y (ws.drop (k + 1))).2 * 18446744073709551616 + ws[k]) / y : Nat))) = splitC y ws k := by
   rw [splitC, splitC, hdrop, splitW, U, U, List.replicate_succ', List.append_assoc, List.map_append, List.map_append, List.set_append_right _ _ (by simp)]
   simp
  have hrest : (splitW y (ws.drop k)).2 = ((splitW y (ws.drop (k + 1))).2 * 18446744073709551616 + ws[k]) % y := by rw [hdrop, splitW]
  have hx : ws[k] < 18446744073709551616 := hs _ (List.getElem_mem _)
  have hdv := o_of (splitW y (ws.drop (k + 1))).2 ws[k] y i2 hx hy
  rw [← hrest] at hdv
  generalize (splitW y (ws.drop (k + 1))).2 = r at *
  have e0 : (0 : Int) ≤ (k : Int) + 1 - 1 := by omega
  have e1 : (k : Int) + 1 - 1 = k := by omega
  have e2 : (((k : Int) + 1 - 1)).toNat = k := by omega
  have e3 : IntKind.i64.wrap ((k : Int) - 1) = (k : Int) - 1 := w64 (by omega) (by omega)
  generalize hxk : ws[k] = x at *
  generalize hqd : (r * 18446744073709551616 + x) / y = q at *
  generalize hr'' : (splitW y (ws.drop k)).2 = r' at *
  refine G1 (fs e0 (fs e1 (fs e2 hk'))) ?_; try with_reducible exact tt
  refine AW.cond rfl (fun h => ?_) (fun h => ?_)
  ·refine G1 (fs e0 (fs e1 (fs e2 (fs hk' hxk)))) ?_; try with_reducible exact tt
   refine CallS.pu (hdv) (R1 (fs e1 (fs hl (fs hk' (fs hset e3)))) ?_); try with_reducible exact tt
   refine ⟨k, by omega, by omega, ?_⟩
   rw [hr'']
   simp [hlowC]
  ·simp at h

theorem o_ot (a b : Nat) (ha : size a ≤ 1000000) (h0 : 0 < b) (hb : b < 18446744073709551616 ∨ a < b) (hbs : size b ≤ 1000000) : Eqn Tryz.prog o_d0 [.d (.agg [natW a]), .d (.agg [natW b])] [] (.tup [.d (.agg [natW (a / b)]), .d (.agg [natW (a % b)]), .d (.int .i64 0)]) [] := by
 refine Eqn.pure o_d2 (o_l9 _ _ _) ?_
 simp only [o_d1]
 refine G0 ?_; try with_reducible exact tt
 refine CallS.pu (o_ku b) (R0 ?_); try with_reducible exact tt
 have hz : (b == 0) = false := by simp; omega
 refine AW.cond rfl (fun h => ?_) (fun h => ?_)
 ·simp [hz] at h
 refine G0 ?_; try with_reducible exact tt
 refine CallS.pu (o_kw a b ha hbs) (R0 ?_); try with_reducible exact tt
 refine AW.cond rfl (fun h => ?_) (fun h => ?_)
 ·have hlt : a < b := by simpa [o_lq] using h
  rw [Nat.div_eq_of_lt hlt, Nat.mod_eq_of_lt hlt]
  refine G0 ?_; try with_reducible exact tt
  refine CallS.pu (o_kt (words a) (o_kk a) (by unfold size at ha; omega)) (R0 ?_); try with_reducible exact tt
  rw [o_kj]
  exact Sub1.tup (Subs.cons (Sub1.nat0) (Subs.refl _))
 ·have hge : ¬ a < b := fun hlt => by simp [o_lq, hlt] at h
  have hb1 : b < 18446744073709551616 := by omega
  have e' : natW b = .sl 1 [.int .u64 b] := by rw [natW, o_lo (by omega) hb1]; rfl
  have hsp := o_os (words a) b (o_kk a) (by unfold size at ha; omega) h0 hb1
  obtain ⟨q1, q2, q3, q4⟩ := o_op h0 (o_kk a)
  have hd := o_oq h0 (o_kk a)
  rw [o_kj] at hd
  have htr := o_ks (splitW b (words a)).1 q3 (by unfold size at ha; omega)
  rw [hd.1] at htr
  rw [hd.2] at hsp q2
  rw [show W (words a) = natW a from rfl] at hsp
  generalize (splitW b (words a)).1 = qs at *
  refine G1 e' ?_; try with_reducible exact tt
  refine AW.cond rfl (fun h => ?_) (fun h => ?_)
  ·refine G1 e' ?_; try with_reducible exact tt
   refine CallS.pu (hsp) (R0 ?_); try with_reducible exact tt
   refine CallS.pu (htr) (R0 ?_); try with_reducible exact tt
   refine CallS.pf 4 1 ⟨194, _⟩ [.int .u64 (a % b : Nat)] (o_kt [a % b] (o_lp (by omega)) (by simp)) (by first | rfl | (simp; done)) (R0 ?_); try with_reducible exact tt
   simp [wval]
  ·simp [e'] at h
end
section
open Go.RowKit
def spcL : ByteArray := ⟨#[32, 32, 32, 32, 32, 32, 32, 32, 32, 32, 32, 32, 32, 32, 32, 32, 32, 32, 32, 32, 32, 32, 32, 32, 32, 32, 32, 32, 32, 32, 32, 32, 32, 32, 32, 32, 32, 32, 32, 32, 32, 32, 32, 32, 32, 32, 32, 32, 32, 32, 32, 32, 32, 32, 32, 32, 32, 32, 32, 32, 32, 32, 32, 32, 32, 32, 32, 32, 32, 32, 32, 32, 32, 32, 32, 32, 32, 32, 32, 32, 32, 32, 32, 32, 32, 32, 32, 32, 32, 32, 32, 32, 32, 32, 32, 32, 32, 32, 32, 32, 32, 32, 32, 32, 32, 32, 32, 32, 32, 32, 32, 32, 32, 32, 32, 32, 32, 32, 32, 32, 32, 32, 32, 32, 32, 32, 32, 32]⟩
def dshL : ByteArray := ⟨#[45, 45, 45, 45, 45, 45, 45, 45, 45, 45, 45, 45, 45, 45, 45, 45, 45, 45, 45, 45, 45, 45, 45, 45, 45, 45, 45, 45, 45, 45, 45, 45, 45, 45, 45, 45, 45, 45, 45, 45, 45, 45, 45, 45, 45, 45, 45, 45, 45, 45, 45, 45, 45, 45, 45, 45, 45, 45, 45, 45, 45, 45, 45, 45, 45, 45, 45, 45, 45, 45, 45, 45, 45, 45, 45, 45, 45, 45, 45, 45, 45, 45, 45, 45, 45, 45, 45, 45, 45, 45, 45, 45, 45, 45, 45, 45, 45, 45, 45, 45, 45, 45, 45, 45, 45, 45, 45, 45, 45, 45, 45, 45, 45, 45, 45, 45, 45, 45, 45, 45, 45, 45, 45, 45, 45, 45, 45, 45]⟩
def zerL : ByteArray := ⟨#[48, 48, 48, 48, 48, 48, 48, 48, 48, 48, 48, 48, 48, 48, 48, 48, 48, 48, 48, 48, 48, 48, 48, 48, 48, 48, 48, 48, 48, 48, 48, 48, 48, 48, 48, 48, 48, 48, 48, 48, 48, 48, 48, 48, 48, 48, 48, 48, 48, 48, 48, 48, 48, 48, 48, 48, 48, 48, 48, 48, 48, 48, 48, 48]⟩
theorem o_ou : spcL.size = 128 := by kernel_rfl
theorem o_ov : dshL.size = 128 := by kernel_rfl
theorem o_ow : zerL.size = 64 := by kernel_rfl
theorem o_ox : ((spcL.extract 0 1).toList == (⟨#[48]⟩ : ByteArray).toList) = false := by kernel_rfl
theorem o_oy : ((dshL.extract 0 1).toList == (⟨#[48]⟩ : ByteArray).toList) = false := by kernel_rfl
theorem o_oz : ((zerL.extract 0 1).toList == (⟨#[48]⟩ : ByteArray).toList) = true := by kernel_rfl
theorem o_p0 : ((List.range 65).all fun k => (zerL.extract 0 k).data.toList == (List.replicate k 48).map UInt8.ofNat) = true := by kernel_rfl
theorem o_p1 (k : Nat) (h : k ≤ 64) : zerL.extract 0 k = bst (List.replicate k 48) := by
 have := List.all_eq_true.1 o_p0 k (by simp; omega)
 simp only [beq_iff_eq] at this
 unfold bst
 rw [← this]
theorem o_p2 (s p : ByteArray) (h : p.size ≤ s.size) (hs : s.size ≤ 1000) : Eqn Tryz.prog o_hd [.d (.str s), .d (.str p)] [] (.d (.bool ((s.extract 0 p.size).toList == p.toList))) [] := by
 refine Eqn.pure o_hf Plain.ok ?_
 simp only [o_he]
 have h' : (p.size : Int) ≤ s.size := by omega
 refine A10 (fs h h') ?_; try with_reducible exact tt
theorem o_p3 (s p : ByteArray) (h : p.size ≤ s.size) (hs : s.size ≤ 1000) : Eqn Tryz.prog o_fy [.d (.str s), .d (.str p)] [] (.d (.bool ((s.extract 0 p.size).toList == p.toList))) [] := by
 refine Eqn.pure o_g0 Plain.ok ?_
 simp only [o_fz]
 have hh := o_p2 s p h hs
 refine A01 hh ?_; try with_reducible exact tt
theorem o_p4 (k : Nat) (h : k < 18446744073709551616) : Eqn Tryz.prog o_fv [.d (.int .u64 1), .d (.int .u64 k)] [] (.tup [.d (.int .u64 0), .d (.int .u64 k)]) [] := by
 refine Eqn.pure o_fx Plain.ok ?_
 simp only [o_fw]
 have hm := o_oc 1 k (by omega) h
 rw [Nat.one_mul, Nat.div_eq_of_lt h, Nat.mod_eq_of_lt h] at hm
 refine A01 hm ?_; try with_reducible exact tt
@[simp] theorem o_p5 : ByteArray.size ⟨#[48]⟩ = 1 := rfl
theorem o_p6 (k : Nat) (hk : k ≤ 18) : Eqn Tryz.prog o_cr [.d (.str ⟨#[48]⟩), .d (.int .i64 k)] [] (.d (.str (bst (List.replicate k 48)))) [] := by
 refine Eqn.pure o_ct Plain.ok ?_
 simp only [o_cs]
 rw [show (⟨#[32, 32, 32, 32, 32, 32, 32, 32, 32, 32, 32, 32, 32, 32, 32, 32, 32, 32, 32, 32, 32, 32, 32, 32, 32, 32, 32, 32, 32, 32, 32, 32, 32, 32, 32, 32, 32, 32, 32, 32, 32, 32, 32, 32, 32, 32, 32, 32, 32, 32, 32, 32, 32, 32, 32, 32, 32, 32, 32, 32, 32, 32, 32, 32, 32, 32, 32, 32, 32, 32, 32, 32, 32, 32, 32, 32, 32, 32, 32, 32, 32, 32, 32, 32, 32, 32, 32, 32, 32, 32, 32, 32, 32, 32, 32, 32, 32, 32, 32, 32, 32, 32, 32, 32, 32, 32, 32, 32, 32, 32, 32, 32, 32, 32, 32, 32, 32, 32, 32, 32, 32, 32, 32, 32, 32, 32, 32, 32]⟩ : ByteArray) = spcL from rfl]
 rw [show (⟨#[45, 45, 45, 45, 45, 45, 45, 45, 45, 45, 45, 45, 45, 45, 45, 45, 45, 45, 45, 45, 45, 45, 45, 45, 45, 45, 45, 45, 45, 45, 45, 45, 45, 45, 45, 45, 45, 45, 45, 45, 45, 45, 45, 45, 45, 45, 45, 45, 45, 45, 45, 45, 45, 45, 45, 45, 45, 45, 45, 45, 45, 45, 45, 45, 45, 45, 45, 45, 45, 45, 45, 45, 45, 45, 45, 45, 45, 45, 45, 45, 45, 45, 45, 45, 45, 45, 45, 45, 45, 45, 45, 45, 45, 45, 45, 45, 45, 45, 45, 45, 45, 45, 45, 45, 45, 45, 45, 45, 45, 45, 45, 45, 45, 45, 45, 45, 45, 45, 45, 45, 45, 45, 45, 45, 45, 45, 45, 45]⟩ : ByteArray) = dshL from rfl]
 rw [show (⟨#[48, 48, 48, 48, 48, 48, 48, 48, 48, 48, 48, 48, 48, 48, 48, 48, 48, 48, 48, 48, 48, 48, 48, 48, 48, 48, 48, 48, 48, 48, 48, 48, 48, 48, 48, 48, 48, 48, 48, 48, 48, 48, 48, 48, 48, 48, 48, 48, 48, 48, 48, 48, 48, 48, 48, 48, 48, 48, 48, 48, 48, 48, 48, 48]⟩ : ByteArray) = zerL from rfl]
 by_cases h0 : k = 0
 ·subst h0
  refine A00 ?_; try with_reducible exact tt
  exact Sub1.of rfl
 by_cases h1 : k = 1
 ·subst h1
  refine A00 ?_; try with_reducible exact tt
  exact Sub1.of rfl
 have e1 := o_ou
 have e2 := o_ov
 have e3 := o_ow
 have p1 := o_p3 spcL ⟨#[48]⟩ (by rw [e1]; decide) (by omega)
 have p2 := o_p3 dshL ⟨#[48]⟩ (by rw [e2]; decide) (by omega)
 have p3 := o_p3 zerL ⟨#[48]⟩ (by rw [e3]; decide) (by omega)
 rw [o_p5, o_ox] at p1
 rw [o_p5, o_oy] at p2
 rw [o_p5, o_oz] at p3
 have hx := o_p1 k (by omega)
 have hm := o_p4 k (by omega)
 generalize spcL = s1 at *
 generalize dshL = s2 at *
 generalize zerL = s3 at *
 have ku : IntKind.u64.wrap (k : Int) = k := by rw [IntKind.wrap_u64]; omega
 have ki : IntKind.i64.wrap (k : Int) = k := by rw [IntKind.wrap_i64]; omega
 have g1 : ¬ (k : Int) = 0 := by omega
 have g2 : ¬ (k : Int) = 1 := by omega
 have g3 : ¬ (k : Int) < 0 := by omega
 have g4 : (k : Int) ≤ 128 := by omega
 have g5 : (k : Int) ≤ 64 := by omega
 have g6 : ¬ (9223372036854775807 : Int) < k := by omega
 have e3k : k ≤ s3.size := by omega
 refine A14 (fs h0 (fs h1 (fs g1 (fs g2 (fs g3 (fs g4 (fs g5 (fs g6 (fs ku (fs ki (fs e3 (fs hx e3k)))))))))))) hm p1 p2 p3 ?_; try with_reducible exact tt
 done
end
section
open Go.RowKit
theorem o_p7 : txt 0 = ⟨#[48]⟩ := by rw [txt, decN, ndig]; rfl
theorem o_p8 (n : Nat) (hn : n < 18446744073709551616) : Eqn Tryz.prog o_co [.d (.int .u64 n), .d (.int .i64 10)] [] (.d (.str (txt n))) [] := by
 refine Eqn.pure o_cq (o_58 _) ?_
 simp only [o_cp]
 have h := o_oa n hn
 refine A01 h ?_; try with_reducible exact tt
def wN (a i : Nat) : Nat := a / 10 ^ (18 * i)
def outN (a i : Nat) : List Nat := if wN a i = 0 then decN a else padN (18 * i) a
theorem o_p9 (a i : Nat) : wN a (i + 1) = wN a i / 1000000000000000000 := by rw [wN, wN, Nat.div_div_eq_div_mul, Nat.mul_succ, Nat.pow_add]
theorem e18 : (1000000000000000000 : Nat) = 10 ^ 18 := by decide
theorem o_pa (a i : Nat) (h : 0 < wN a (i + 1)) (h0 : 0 < wN a i) : List.replicate (18 - (decN (wN a i % 1000000000000000000)).length) 48 ++ decN (wN a i % 1000000000000000000) ++ outN a i = outN a (i + 1) := by
 have h1 : outN a i = padN (18 * i) a := by rw [outN, if_neg (by omega)]
 have h2 : outN a (i + 1) = padN (18 * (i + 1)) a := by rw [outN, if_neg (by omega)]
 have h3 : padN (18 * (i + 1)) a = padN 18 (wN a i) ++ padN (18 * i) a := by rw [show 18 * (i + 1) = 18 + 18 * i by omega, o_mb]; rfl
 rw [h1, h2, h3, e18, o_mn _ 18 (Nat.mod_lt _ (Nat.pow_pos (by decide))) (by decide), o_mg 18 (wN a i)]
theorem o_pb (a i : Nat) (h : wN a (i + 1) = 0) (h0 : 0 < wN a i) : decN (wN a i % 1000000000000000000) ++ outN a i = outN a (i + 1) := by
 rw [outN, outN, if_neg (by omega), if_pos h, Nat.mod_eq_of_lt (by rw [o_p9] at h; omega), o_mm (18 * i) a h0]
 rfl
theorem splitN (w y : Nat) (h0 : 0 < y) : wval (splitW y (words w)).1 = w / y ∧ (splitW y (words w)).2 = w % y := by
 obtain ⟨h1, h2, -, -⟩ := o_op h0 (o_kk w)
 rw [o_kj] at h1
 generalize splitW y (words w) = s at *
 constructor
 ·rw [h1, Nat.mul_comm, Nat.mul_add_div h0, Nat.div_eq_of_lt h2, Nat.add_zero]
 ·rw [h1, Nat.mul_comm, Nat.mul_add_mod, Nat.mod_eq_of_lt h2]
theorem o_pc (a : Nat) (ha : size a ≤ 1000) : Eqn Tryz.prog o_8m [.d (.agg [natW a])] [] (.d (.str (txt a))) [] := by
 refine Eqn.pure o_8o (o_58 _) ?_
 have hz := o_ku a
 simp only [o_8n]
 by_cases h0 : a = 0
 ·subst h0
  refine A01 hz ?_; try with_reducible exact tt
  exact Sub1.of (by rw [o_p7])
 have hda : ndig a ≤ 20000 := by
  have h1 := o_jo (o_kk a)
  rw [o_kj] at h1
  obtain ⟨K, hK⟩ : ∃ K, K = 20 * (words a).length := ⟨_, rfl⟩
  have h2 : a < 10 ^ K := by
   rw [hK, Nat.pow_mul]
   exact Nat.lt_of_lt_of_le h1 (Nat.pow_le_pow_left (by decide) _)
  rcases Nat.eq_zero_or_pos K with h3 | h3
  ·rw [h3] at h2; simp at h2; omega
  ·have := o_mk a K h2 h3
   rw [o_lm] at hK
   omega
 refine A11 h0 hz ?_; try with_reducible exact tt
 refine AW.loopT (α := Nat) 1 (fun i => [(4, .d (natW (wN a i))), (3, .d (.str (bst (outN a i))))]) (fun i => []) (fun i => True) (fun i => wN a i) 0 ?_ ?_ trivial ?_ ?_ ?_
 ·simp
 ·simp
 ·have e1 : outN a 0 = [] := by rw [outN, if_neg (by rw [wN]; simpa using h0)]; rfl
  have e2 : wN a 0 = a := by simp [wN]
  rw [e1, e2]
  simp [o_mq]
 ·simp
 intro i _
 have hw : wN a i ≤ a := Nat.div_le_self _ _
 have hsw := o_ld hw
 by_cases hwz : wN a i = 0
 ·have e1 : outN a i = decN a := by rw [outN, if_pos hwz]
  rw [e1, hwz, o_kp]
  simp
  refine A00 ?_; try with_reducible exact tt
  exact Sub1.of rfl
 ·have hs := o_os (words (wN a i)) 1000000000000000000 (o_kk _) (by rw [o_lm]; omega) (by decide) (by decide)
  have ht := o_ks (splitW 1000000000000000000 (words (wN a i))).1 (o_op (by decide) (o_kk _)).2.2.1 (by rw [(o_op (y := 1000000000000000000) (by decide) (o_kk _)).2.2.2, o_lm]; omega)
  obtain ⟨k1, k2⟩ := splitN (wN a i) 1000000000000000000 (by decide)
  rw [k2] at hs
  rw [k1, ← o_p9] at ht
  have hf := o_p8 (wN a i % 1000000000000000000) (Nat.lt_trans (Nat.mod_lt _ (by decide)) (by decide))
  have hlt : wN a (i + 1) < wN a i := by rw [o_p9]; exact Nat.div_lt_self (by omega) (by decide)
  have hdl := o_mr (wN a i % 1000000000000000000)
  have hd18 := o_mk (wN a i % 1000000000000000000) 18 (Nat.mod_lt _ (by decide)) (by decide)
  have hd0 := o_mi (wN a i % 1000000000000000000)
  obtain ⟨w, hwd⟩ : ∃ w, w = wN a i := ⟨_, rfl⟩
  obtain ⟨w1, hwd1⟩ : ∃ w, w = wN a (i + 1) := ⟨_, rfl⟩
  obtain ⟨pt, hpt⟩ : ∃ w, w = wN a i % 1000000000000000000 := ⟨_, rfl⟩
  have hW : natW w = W (words w) := rfl
  have hlw : 0 < (words w).length := by
   rcases Nat.eq_zero_or_pos (words w).length with h | h
   ·exact absurd (o_kn.1 (List.eq_nil_of_length_eq_zero h)) (by omega)
   ·exact h
  have hol : (outN a i).length ≤ 20000 := by
   rw [outN, if_neg hwz, o_ma]
   have := o_ml (18 * i) a (Nat.pos_of_ne_zero hwz)
   omega
  have hmore := o_pa a i
  have hlast := o_pb a i
  rw [← hpt] at hs hf hmore hlast hdl hd18 hd0
  rw [← hwd] at hs ht hlt hmore hlast hwz hw hsw ⊢
  rw [← hwd1] at ht hlt hmore hlast
  simp only [W] at hs ht hW
  generalize (words w).length = nw at *
  generalize ((words w).map fun x : Nat => D.int .u64 x) = LW at *
  generalize (splitW 1000000000000000000 (words w)).1 = sw1 at *
  simp
  rw [hW]
  have hlw' : (0 : Int) < nw := by omega
  rw [txt] at hf
  obtain ⟨O, hO⟩ : ∃ O, O = outN a i := ⟨_, rfl⟩
  obtain ⟨B, hB⟩ : ∃ B, B = decN pt := ⟨_, rfl⟩
  rw [← hO] at hmore hlast hol ⊢
  rw [← hB] at hmore hlast hdl hf
  refine A13 (fs hlw hlw') hs ht hf ?_; try with_reducible exact tt
  have hap := o_mo
  by_cases h1 : w1 = 0
  ·rw [h1, o_kp]
   replace hlast := hlast (by omega) (by omega)
   refine A00 ?_; try with_reducible exact tt
   have e1 := o_mo B O
   rw [hlast] at e1
   exact ⟨i + 1, by rw [← hwd1]; exact hlt, Sub1.of (by rw [e1]), Sub1.of (by rw [← hwd1, h1, o_kp])⟩
  ·have hW1 : natW w1 = W (words w1) := rfl
   simp only [W] at hW1
   have hl1 : 0 < (words w1).length := by
    rcases Nat.eq_zero_or_pos (words w1).length with h | h
    ·exact absurd (o_kn.1 (List.eq_nil_of_length_eq_zero h)) h1
    ·exact h
   generalize (words w1).length = nw1 at *
   generalize ((words w1).map fun x : Nat => D.int .u64 x) = LW1 at *
   have hl1' : (0 : Int) < nw1 := by omega
   replace hmore := hmore (by omega) (by omega)
   obtain ⟨k, hk⟩ : ∃ k, k = 18 - B.length := ⟨_, rfl⟩
   have hr := o_p6 k (by omega)
   have ek : IntKind.i64.wrap (18 - (B.length : Int)) = k := by rw [w64 (by omega) (by omega)]; omega
   rw [← hk] at hmore
   have e1 := o_mo (List.replicate k 48) B
   have e2 := o_mo (List.replicate k 48 ++ B) O
   rw [hmore] at e2
   rw [hW1]
   have hsz : (List.replicate k 48 ++ B).length ≤ 18 := by simp; omega
   generalize hRB : List.replicate k 48 ++ B = RB at *
   generalize hRR : List.replicate k 48 = RR at *
   have hrl : RR.length ≤ 18 := by rw [← hRR]; simp; omega
   refine A11 (fs hl1 (fs hl1' (fs ek e1))) hr ?_; try with_reducible exact tt
   exact ⟨i + 1, by rw [← hwd1]; exact hlt, Sub1.of (by rw [e2]), Sub1.of (by rw [← hwd1, hW1])⟩
end
section
def wordsN : Nat → Nat → List Nat
 | 0, _ => []
 | m + 1, x => x % 18446744073709551616 :: wordsN m (x / 18446744073709551616)
theorem o_pd : ∀ m x, (wordsN m x).length = m
 | 0, _ => rfl
 | m + 1, x => by simp [wordsN, o_pd m]
theorem o_pe : ∀ m x, small (wordsN m x)
 | 0, _ => by simp [wordsN, small]
 | m + 1, x => by
  intro y hy
  rw [wordsN, List.mem_cons] at hy
  rcases hy with rfl | hy
  ·omega
  ·exact o_pe m _ y hy
theorem o_pf : ∀ m x, x < 18446744073709551616 ^ m → wval (wordsN m x) = x
 | 0, x, h => by simp at h; simp [wordsN, wval, h]
 | m + 1, x, h => by
  rw [wordsN, wval, o_pf m _ (by rw [Nat.pow_succ] at h; rw [Nat.div_lt_iff_lt_mul (by decide)]; exact h)]
  omega
theorem o_pg : ∀ {l : List Nat}, small l → wordsN l.length (wval l) = l
 | [], _ => rfl
 | x :: l, h => by
  have hx := h x (by simp)
  have hl : small l := fun y hy => h y (by simp [hy])
  rw [List.length_cons, wordsN, wval]
  congr 1
  ·omega
  ·rw [show (x + 18446744073709551616 * wval l) / 18446744073709551616 = wval l by omega]; exact o_pg hl
theorem o_ph {l : List Nat} {m x : Nat} (h : small l) (hl : l.length = m) (hv : wval l = x) : l = wordsN m x := by rw [← hl, ← hv, o_pg h]

def ovr (ws : List Nat) (k : Nat) (l : List Nat) : List Nat := ws.take k ++ (l ++ ws.drop (k + l.length))
theorem o_pi {ws : List Nat} {k : Nat} {l : List Nat} (h : k + l.length ≤ ws.length) : (ovr ws k l).length = ws.length := by simp [ovr]; omega
theorem o_pj {ws : List Nat} {k : Nat} {l : List Nat} (h : small ws) (hl : small l) : small (ovr ws k l) := by
 intro x hx
 simp only [ovr, List.mem_append] at hx
 rcases hx with hx | hx | hx
 ·exact h x (List.mem_of_mem_take hx)
 ·exact hl x hx
 ·exact h x (List.mem_of_mem_drop hx)
theorem o_pk (ws : List Nat) (k : Nat) : ovr ws k [] = ws := by simp [ovr]
theorem o_pl {ws : List Nat} {k : Nat} {l : List Nat} (h : k + l.length < ws.length) : (ovr ws k l).getD (k + l.length) 0 = ws.getD (k + l.length) 0 := by
 simp only [ovr, List.getD_eq_getElem?_getD]
 congr 1
 rw [List.getElem?_append_right (by rw [List.length_take]; omega), List.length_take, Nat.min_eq_left (by omega), List.getElem?_append_right (by omega), List.getElem?_drop]
 congr 1; omega
theorem o_pm {ws : List Nat} {k : Nat} {l : List Nat} (h : k + l.length < ws.length) (v : Nat) : (ovr ws k l).set (k + l.length) v = ovr ws k (l ++ [v]) := by
 have e : ws.drop (k + l.length) = ws.getD (k + l.length) 0 :: ws.drop (k + (l.length + 1)) := by
  rw [List.getD_eq_getElem?_getD, List.getElem?_eq_getElem h, Option.getD_some, ← Nat.add_assoc]
  exact List.drop_eq_getElem_cons h
 simp only [ovr]
 rw [List.set_append_right _ _ (by rw [List.length_take]; omega), List.length_take, Nat.min_eq_left (by omega), show k + l.length - k = l.length by omega, List.set_append_right _ _ (by omega), Nat.sub_self, e]
 simp
theorem o_pn {ws : List Nat} {k : Nat} {l r : List Nat} (h : k + l.length ≤ ws.length) (hl : l.length ≤ r.length) : ovr (ovr ws k l) k r = ovr ws k r := by
 simp only [ovr]
 have h1 : (ws.take k).length = k := by rw [List.length_take]; omega
 rw [List.take_append_of_le_length (by omega), List.take_of_length_le (by omega)]
 congr 2
 rw [List.drop_append, List.drop_eq_nil_of_le (by omega), List.nil_append, h1, List.drop_append, List.drop_eq_nil_of_le (by omega), List.nil_append, List.drop_drop]
 congr 1; omega
theorem o_po {ws : List Nat} {k : Nat} {l : List Nat} (h : k + l.length ≤ ws.length) : ((ovr ws k l).drop k).take l.length = l := by
 have h1 : (ws.take k).length = k := by rw [List.length_take]; omega
 simp only [ovr]
 rw [List.drop_append, List.drop_eq_nil_of_le (by omega), List.nil_append, h1, Nat.sub_self, List.drop_zero, List.take_append_of_le_length (by omega), List.take_of_length_le (by omega)]
theorem o_pp {ws : List Nat} {k n i : Nat} (h : i < n) : ((ws.drop k).take n).getD i 0 = ws.getD (k + i) 0 := by
 simp only [List.getD_eq_getElem?_getD, List.getElem?_take, if_pos h, List.getElem?_drop]
theorem o_pq {ws : List Nat} {k n : Nat} (h : k + n ≤ ws.length) : ((ws.drop k).take n).length = n := by simp; omega
theorem o_pr {ws : List Nat} (h : small ws) (k : Nat) : small (ws.drop k) := fun x hx => h x (List.mem_of_mem_drop hx)
theorem o_ps {l : List Nat} (h : small l) {v : Nat} (hv : v < 18446744073709551616) : small (l ++ [v]) := by
 intro x hx
 rw [List.mem_append, List.mem_singleton] at hx
 rcases hx with hx | rfl
 ·exact h x hx
 ·exact hv
theorem o_pt (l : List Nat) (v : Nat) : wval (l ++ [v]) = wval l + 18446744073709551616 ^ l.length * v := by
 rw [o_jm]; simp [wval]
theorem o_pu : small [] := by simp [small]

theorem o_pv {l0 g D0 U0 p bo c x y lo hi l2 k2 nb z : Nat} (hv : l0 + g * D0 = U0 + p * (bo + c)) (hyg : y * g = hi * 18446744073709551616 + lo) (h1 : lo + c = l2 + 18446744073709551616 * k2) (h2 : x + 18446744073709551616 * nb = z + l2 + bo) :
  l0 + p * z + g * (D0 + p * y) = U0 + p * x + p * 18446744073709551616 * (nb + (hi + k2)) := by
 have e1 : p * x + 18446744073709551616 * (p * nb) = p * z + p * l2 + p * bo := by
  have := congrArg (p * ·) h2
  simp only [Nat.mul_add] at this
  rw [← Nat.mul_assoc, Nat.mul_comm p 18446744073709551616, Nat.mul_assoc] at this
  exact this
 have e2 : p * lo + p * c = p * l2 + 18446744073709551616 * (p * k2) := by
  have := congrArg (p * ·) h1
  simp only [Nat.mul_add] at this
  rw [← Nat.mul_assoc p 18446744073709551616, Nat.mul_comm p 18446744073709551616, Nat.mul_assoc 18446744073709551616] at this
  exact this
 have e3 : g * (p * y) = 18446744073709551616 * (p * hi) + p * lo := by
  have := congrArg (p * ·) hyg
  simp only [Nat.mul_add] at this
  rw [← Nat.mul_assoc p hi, Nat.mul_comm (p * hi), ← Nat.mul_assoc p y g, Nat.mul_comm (p * y) g] at this
  exact this
 have e4 : p * 18446744073709551616 * (nb + (hi + k2)) = 18446744073709551616 * (p * nb) + 18446744073709551616 * (p * hi) + 18446744073709551616 * (p * k2) := by
  rw [Nat.mul_comm p, Nat.mul_assoc, Nat.mul_add, Nat.mul_add, Nat.mul_add, Nat.mul_add]; omega
 rw [Nat.mul_add, e3, e4]
 rw [Nat.mul_add] at hv
 omega
theorem o_pw {ws : List Nat} {n : Nat} (h : small ws) (hl : ws.length = n) : wval ws < 18446744073709551616 ^ n := by rw [← hl]; exact o_jo h
theorem o_px {u : List Nat} {n z c b x nb gD wl Un : Nat} {l' : List Nat} (h1 : wval l' = wl + 18446744073709551616 ^ n * z) (hv : wl + gD = Un + 18446744073709551616 ^ n * (b + c)) (hux : wval u = Un + 18446744073709551616 ^ n * x) (hzb : x + 18446744073709551616 * nb = z + c + b) (hnb : nb ≤ 1) (hs : small l') (hl : l'.length = n + 1) (hus : small u) (hul : u.length = n + 1) :
  nb = (if wval u < gD then 1 else 0) ∧ l' = wordsN (n + 1) (wval u + (if wval u < gD then 18446744073709551616 ^ (n + 1) else 0) - gD) := by
 have e1 : wval l' + gD = wval u + 18446744073709551616 ^ (n + 1) * nb := by
  have := congrArg (18446744073709551616 ^ n * ·) hzb
  simp only [Nat.mul_add] at this
  rw [← Nat.mul_assoc, ← Nat.pow_succ] at this
  rw [Nat.mul_add] at hv
  simp only [Nat.succ_eq_add_one] at this
  omega
 have hlt := o_pw hs hl
 have hult := o_pw hus hul
 generalize 18446744073709551616 ^ (n + 1) = M at *
 have hc : nb = 0 ∨ nb = 1 := by omega
 rcases hc with rfl | rfl
 ·rw [if_neg (by omega), if_neg (by omega)]
  exact ⟨rfl, o_ph hs hl (by omega)⟩
 ·rw [if_pos (by omega), if_pos (by omega)]
  exact ⟨rfl, o_ph hs hl (by omega)⟩
theorem o_py {u : List Nat} {m gD : Nat} (hus : small u) (hul : u.length = m) (hg : gD ≤ wval u + 18446744073709551616 ^ m) : wval (wordsN m (wval u + (if wval u < gD then 18446744073709551616 ^ m else 0) - gD)) + gD = wval u + 18446744073709551616 ^ m * (if wval u < gD then 1 else 0) := by
 have hult := o_pw hus hul
 by_cases h : wval u < gD
 ·rw [if_pos h, if_pos h, o_pf _ _ (by omega)]; omega
 ·rw [if_neg h, if_neg h, o_pf _ _ (by omega)]; omega
theorem o_pz {ws : List Nat} {k : Nat} {l : List Nat} {j : Nat} (h : k + l.length ≤ ws.length) (hj : j < l.length) : (ovr ws k l).getD (k + j) 0 = l.getD j 0 := by
 have := o_po h
 rw [← o_pp (n := l.length) hj, this]
theorem o_q0 {wr p c wl wd x y z nc : Nat} (hv : wr + p * c = wl + wd) (h : x + y + c = z + 18446744073709551616 * nc) : wr + p * z + p * 18446744073709551616 * nc = wl + p * x + (wd + p * y) := by
 have := congrArg (p * ·) h
 simp only [Nat.mul_add] at this
 rw [← Nat.mul_assoc] at this
 omega
theorem o_q1 {wr p c wl wd wL x v nv : Nat} (hv : wr + p * c = wl + wd) (hl : wL = wl + p * x) (h : x + c = v + 18446744073709551616 * nv) : wL + wd = wr + p * v + p * 18446744073709551616 * nv := by
 have := congrArg (p * ·) h
 simp only [Nat.mul_add] at this
 rw [← Nat.mul_assoc] at this
 omega
theorem o_q2 {d : List Nat} {n : Nat} (_ : n < d.length) : d.getD n 0 * 18446744073709551616 ^ n ≤ wval d := by
 have h1 := o_k7 d n
 have h2 : wval d = wval (d.take (n + 1)) + 18446744073709551616 ^ (d.take (n + 1)).length * wval (d.drop (n + 1)) := by rw [← o_jm, List.take_append_drop]
 rw [h2, h1, Nat.mul_comm]
 omega
theorem o_q3 {u : List Nat} {n m : Nat} (hs : small u) (hl : u.length = m + 1) (hm : m = n + 1) : wval u / 18446744073709551616 ^ n = u.getD m 0 * 18446744073709551616 + u.getD n 0 := by
 have h1 := o_k7 u n
 have h2 := o_k7 u m
 rw [List.take_of_length_le (by omega)] at h2
 have h3 := o_kg hs n
 have hp : 0 < 18446744073709551616 ^ n := Nat.pow_pos (by decide)
 rw [h2, hm, h1, Nat.pow_succ, Nat.mul_assoc, Nat.add_assoc, ← Nat.mul_add, Nat.add_mul_div_left _ _ hp, Nat.div_eq_of_lt h3, Nat.zero_add, Nat.mul_comm 18446744073709551616]
 omega
theorem o_q4 {U0 W1 Bk D S Q BQ : Nat} (h : U0 = W1 + Bk * S + D * BQ) (hq : BQ = Bk * 18446744073709551616 * Q) : U0 = W1 + Bk * (S % D) + D * (Bk * (S / D + 18446744073709551616 * Q)) := by
 have h1 := Nat.div_add_mod S D
 rw [h, hq]
 have e1 : Bk * S = Bk * (S % D) + D * (Bk * (S / D)) := by
  conv => lhs; rw [← h1]
  rw [Nat.mul_add, Nat.mul_left_comm, Nat.add_comm]
 rw [e1, Nat.mul_add Bk, Nat.mul_add D, Nat.mul_assoc Bk]
 omega
theorem o_q5 {ws : List Nat} (k n : Nat) (h : k + n ≤ ws.length) : wval (ws.take (k + n)) = wval (ws.take k) + 18446744073709551616 ^ k * wval ((ws.drop k).take n) := by
 have e : ws.take (k + n) = ws.take k ++ (ws.drop k).take n := by rw [List.take_add]
 rw [e, o_jm, List.length_take, Nat.min_eq_left (by omega)]
theorem o_q6 {n x : Nat} (h : x < 18446744073709551616 ^ n) : (wordsN (n + 1) x).take n = wordsN n x := by
 have : ∀ (n x : Nat), (wordsN (n + 1) x).take n = wordsN n x := by
  intro n
  induction n with
  | zero => intro x; simp [wordsN]
  | succ n ih => intro x; rw [wordsN, List.take_succ_cons, ih, wordsN]
 exact this n x
theorem o_q7 {ws : List Nat} {k : Nat} {l : List Nat} (h : k ≤ ws.length) : (ovr ws k l).take k = ws.take k := by
 simp only [ovr]
 rw [List.take_append_of_le_length (by rw [List.length_take]; omega), List.take_take, Nat.min_self]
theorem o_q8 {ws : List Nat} {k m : Nat} (h : k < ws.length) : wval ((ws.drop k).take (m + 1)) = ws.getD k 0 + 18446744073709551616 * wval ((ws.drop (k + 1)).take m) := by
 rw [List.drop_eq_getElem_cons h, List.take_succ_cons, wval, List.getD_eq_getElem?_getD, List.getElem?_eq_getElem h]; rfl
theorem o_q9 {ws : List Nat} {k n x : Nat} (h : k + (n + 1) ≤ ws.length) (hx : x < 18446744073709551616 ^ n) : wval (((ovr ws k (wordsN (n + 1) x)).drop k).take n) = x := by
 have h1 := o_po (ws := ws) (k := k) (l := wordsN (n + 1) x) (by rw [o_pd]; exact h)
 rw [o_pd] at h1
 have h2 : ((ovr ws k (wordsN (n + 1) x)).drop k).take n = (((ovr ws k (wordsN (n + 1) x)).drop k).take (n + 1)).take n := by rw [List.take_take, Nat.min_eq_left (by omega)]
 rw [h2, h1, o_q6 hx, o_pf _ _ hx]
theorem o_qa {k : Nat} {q : List Nat} (v : Nat) : (List.replicate (k + 1) 0 ++ q).set k v = List.replicate k 0 ++ v :: q := by
 rw [List.replicate_succ', List.append_assoc, List.set_append_right _ _ (by simp)]
 simp
theorem o_qb {Bw : List Nat} {s : Nat} (hb : wval Bw * 2 ^ s < 18446744073709551616 ^ Bw.length) : wval ((movedL s 0 Bw).take Bw.length) = wval Bw * 2 ^ s := by
 have h1 := o_jv s Bw 0
 have h2 := o_k7 (movedL s 0 Bw) Bw.length
 rw [List.take_of_length_le (by rw [o_ju]; omega), h1, Nat.add_zero] at h2
 rcases Nat.eq_zero_or_pos ((movedL s 0 Bw).getD Bw.length 0) with h | h
 ·rw [h, Nat.mul_zero, Nat.add_zero] at h2; exact h2.symm
 ·exfalso
  have : 18446744073709551616 ^ Bw.length * 1 ≤ 18446744073709551616 ^ Bw.length * (movedL s 0 Bw).getD Bw.length 0 := Nat.mul_le_mul_left _ h
  omega
end
section
open Go.RowKit
theorem o_qc (θ : Nat → Nat) (ws : List Nat) : V.rens θ (uW ws) = uW ws := by
 have h := o_5v θ (ws.map fun x : Nat => D.int .u64 x)
 rw [List.map_map] at h
 exact h
theorem o_qd (ws : List Nat) : plainL (uW ws) := ⟨o_ol 0 ws, fun θ => o_qc θ ws⟩

theorem o_qe {y g hi lo : Nat} (hy : y < 18446744073709551616) (hg : g < 18446744073709551616) (h1 : hi = y * g / 18446744073709551616) (h2 : lo = y * g % 18446744073709551616) : y * g = hi * 18446744073709551616 + lo ∧ lo < 18446744073709551616 ∧ hi + 1 < 18446744073709551616 := by
 have hp : y * g ≤ 18446744073709551615 * 18446744073709551615 := Nat.mul_le_mul (by omega) (by omega)
 generalize y * g = p at *
 omega

def takeR (ws d : List Nat) (k g : Nat) : List Nat := wordsN (d.length + 1) (wval ((ws.drop k).take (d.length + 1)) + (if wval ((ws.drop k).take (d.length + 1)) < g * wval d then 18446744073709551616 ^ (d.length + 1) else 0) - g * wval d)
set_option maxHeartbeats 4000000 in
theorem o_qf (ws d : List Nat) (k g : Nat) (hs : small ws) (hd : small d) (hk : k + d.length + 1 ≤ ws.length) (hn : ws.length ≤ 1000000) (hg : g < 18446744073709551616) :
  Eqn Tryz.prog o_i1 [.row 0 k (d.length + 1), .d (W d), .d (.int .u64 g)] [⟨194, uW ws⟩] (.d (.int .i64 (if wval ((ws.drop k).take (d.length + 1)) < g * wval d then 1 else 0))) [⟨194, uW (ovr ws k (takeR ws d k g))⟩] := by
 refine Eqn.obj1 o_i3 Plain.ok (o_qd _) ?_
 obtain ⟨u, hu⟩ : ∃ u, u = (ws.drop k).take (d.length + 1) := ⟨_, rfl⟩
 have hul : u.length = d.length + 1 := by rw [hu]; exact o_pq (by omega)
 have hus : small u := by rw [hu]; exact (o_pr hs k).take _
 have hug : ∀ i, i < d.length + 1 → u.getD i 0 = ws.getD (k + i) 0 := fun i hi => by rw [hu]; exact o_pp hi
 rw [takeR, ← hu]
 simp only [o_i2, W]
 refine G0 ?_; try with_reducible exact tt
 refine AW.loopT (α := Nat × Nat × Nat × List Nat) 1 (fun s => [(17, .d (.int .i64 (s.1 : Int))), (7, .d (.int .u64 (s.2.1 : Int))), (8, .d (.int .u64 (s.2.2.1 : Int)))]) (fun s => [(0, ⟨194, uW (ovr ws k s.2.2.2)⟩)]) (fun s => s.1 ≤ d.length ∧ s.2.1 < 18446744073709551616 ∧ s.2.2.1 ≤ 1 ∧ s.2.2.2.length = s.1 ∧ small s.2.2.2 ∧ wval s.2.2.2 + g * wval (d.take s.1) = wval (u.take s.1) + 18446744073709551616 ^ s.1 * (s.2.2.1 + s.2.1)) (fun s => d.length - s.1) (0, 0, 0, []) ?_ ?_ ⟨Nat.zero_le _, by simp, by simp, rfl, o_pu, by simp [wval]⟩ ?_ ?_ ?_
 ·simp
 ·simp
 ·simp
 ·simp [o_pk, o_ol]
 rintro ⟨i, c, b, l⟩ ⟨hi, hc, hb, hl, hsl, hv⟩
 simp only at hi hc hb hl hsl hv
 simp
 have hol : (uW (ovr ws k l)).length = ws.length := by rw [o_oi, o_pi (by omega)]
 have hget := o_oj (ws := ovr ws k l) (j := k + i) (by rw [← o_oi, hol]; omega)
 have hnx := o_pl (ws := ws) (k := k) (l := l) (by omega)
 rw [hl] at hnx
 rw [hnx, ← hug i (by omega)] at hget
 have hx := hus.getD i
 have hset : ∀ v : Nat, (uW (ovr ws k l)).set (k + i) (.d (.int .u64 v)) = uW (ovr ws k (l ++ [v])) := fun v => by rw [o_ok, ← hl, o_pm (by omega)]
 have hki : ((k : Int) + i).toNat = k + i := by omega
 obtain ⟨x, hxd⟩ : ∃ x, x = u.getD i 0 := ⟨_, rfl⟩
 rw [← hxd] at hget hx
 by_cases hin : i < d.length
 ·have hin' : (i : Int) < d.length := by omega
  have hy : d[i] < 18446744073709551616 := hd _ (List.getElem_mem _)
  have hyd : d[i] = d.getD i 0 := o_kr hin
  have e2 : IntKind.i64.wrap ((i : Int) + 1) = (i : Int) + 1 := w64 (by omega) (by omega)
  refine G1 (fs hin hin') ?_; try with_reducible exact tt
  refine AW.cond rfl (fun h => ?_) (fun h => ?_)
  ·clear h
   refine G1 (fs hin hin') ?_; try with_reducible exact tt
   generalize d[i] = y at hy hyd ⊢
   have hmul := o_oc y g hy hg
   obtain ⟨hi', hhi⟩ : ∃ q, q = y * g / 18446744073709551616 := ⟨_, rfl⟩
   obtain ⟨lo, hlo⟩ : ∃ q, q = y * g % 18446744073709551616 := ⟨_, rfl⟩
   rw [← hhi, ← hlo] at hmul
   obtain ⟨hyg, hl0, hh0⟩ := o_qe hy hg hhi hlo
   clear hhi hlo
   obtain ⟨l2, k2, hl1, hll2, hk2⟩ : ∃ l2 k2 : Nat, lo + c + 0 = l2 + 18446744073709551616 * k2 ∧ l2 < 18446744073709551616 ∧ k2 ≤ 1 := ⟨(lo + c) % 18446744073709551616, (lo + c) / 18446744073709551616, by omega, by omega, by omega⟩
   obtain ⟨z, nb, hzb, hz, hnb⟩ : ∃ z nb : Nat, x + 18446744073709551616 * nb = z + l2 + b ∧ z < 18446744073709551616 ∧ nb ≤ 1 := by
    by_cases h : l2 + b ≤ x
    ·exact ⟨x - l2 - b, 0, by omega, by omega, by omega⟩
    ·exact ⟨x + 18446744073709551616 - l2 - b, 1, by omega, by omega, by omega⟩
   have w1 : IntKind.u64.wrap ((hi' : Int) + k2) = ((hi' + k2 : Nat) : Int) := wu64 (by omega) (by omega)
   have hround := o_pv hv hyg (by omega : lo + c = l2 + 18446744073709551616 * k2) hzb
   have ht : g * wval (d.take (i + 1)) = g * (wval (d.take i) + 18446744073709551616 ^ i * y) := by rw [o_k7, ← hyd]
   have hut : wval (u.take (i + 1)) = wval (u.take i) + 18446744073709551616 ^ i * x := by rw [o_k7, ← hxd]
   have hsn : wval (l ++ [z]) = wval l + 18446744073709551616 ^ i * z := by rw [o_pt, hl]
   rw [← hsn, ← ht, ← hut, ← Nat.pow_succ] at hround
   have hhk : hi' + k2 < 18446744073709551616 := by omega
   refine CallS.pu (hmul) (R1 (fs hol (fs hget hki)) ?_); try with_reducible exact tt
   generalize hi' + k2 = hk at *
   refine CallS.pu (o_kx lo c 0 l2 k2 hl0 hc (by omega) hll2 hl1) (R1 (fs w1 (fs hol (fs hget hki))) ?_); try with_reducible exact tt
   refine CallS.pu (o_ky x l2 b z nb hx hll2 hb hz (by omega)) (R1 (fs hol (fs hki (fs hset e2))) ?_); try with_reducible exact tt
   refine ⟨i + 1, hk, nb, l ++ [z], ⟨hin, hhk, hnb, by simp [hl], o_ps hsl hz, hround⟩, by omega, by simp, ?_⟩
   exact ⟨Subs.refl _, o_ol _ _⟩
  ·simp [hin, hin'] at h
 ·have h2 : i = d.length := by omega
  subst h2
  rw [List.take_length] at hv
  obtain ⟨z, nb, hzb, hz, hnb⟩ : ∃ z nb : Nat, x + 18446744073709551616 * nb = z + c + b ∧ z < 18446744073709551616 ∧ nb ≤ 1 := by
   by_cases h : c + b ≤ x
   ·exact ⟨x - c - b, 0, by omega, by omega, by omega⟩
   ·exact ⟨x + 18446744073709551616 - c - b, 1, by omega, by omega, by omega⟩
  refine G0 ?_; try with_reducible exact tt
  refine AW.cond rfl (fun h => ?_) (fun h => ?_)
  ·simp at h
  refine AW.exit ?_
  (try (simp -implicitDefEqProofs; try simp (disch := omega) only [w64, wu64]))
  refine G1 (fs hol (fs hget hki)) ?_; try with_reducible exact tt
  refine CallS.pu (o_ky x c b z nb hx hc hb hz (by omega)) (R1 (fs hol (fs hki hset)) ?_); try with_reducible exact tt
  have hux : wval u = wval (u.take d.length) + 18446744073709551616 ^ d.length * x := by
   rw [hxd, ← o_k7, List.take_of_length_le (by omega)]
  obtain ⟨hnb', hR⟩ := o_px (n := d.length) (by rw [o_pt, hl]) hv hux hzb hnb (o_ps hsl hz) (by simp [hl]) hus hul
  rw [← hR]
  refine ⟨Sub1.int ?_, Subs.refl _⟩
  rw [hnb']
  split <;> rfl
end
section
open Go.RowKit
set_option maxHeartbeats 4000000 in
theorem o_qg (ws d : List Nat) (k : Nat) (hs : small ws) (hd : small d) (hd1 : 1 ≤ d.length) (hk : k + d.length + 1 ≤ ws.length) (hn : ws.length ≤ 1000000) (htop : d.getD (d.length - 1) 0 ≠ 0) (hU : wval ((ws.drop k).take (d.length + 1)) < wval d * 18446744073709551616) :
  Eqn Tryz.prog o_hj [.row 0 k (d.length + 1), .d (W d)] [⟨194, uW ws⟩] (.d (.int .u64 (wval ((ws.drop k).take (d.length + 1)) / wval d : Nat))) [⟨194, uW (ovr ws k (wordsN (d.length + 1) (wval ((ws.drop k).take (d.length + 1)) % wval d)))⟩] := by
 refine Eqn.obj1 o_hl Plain.ok (o_qd _) ?_
 have htk := fun g hg => o_qf ws d k g hs hd hk hn hg
 obtain ⟨u, hu⟩ : ∃ u, u = (ws.drop k).take (d.length + 1) := ⟨_, rfl⟩
 have hul : u.length = d.length + 1 := by rw [hu]; exact o_pq (by omega)
 have hus : small u := by rw [hu]; exact (o_pr hs k).take _
 have hug : ∀ i, i < d.length + 1 → u.getD i 0 = ws.getD (k + i) 0 := fun i hi => by rw [hu]; exact o_pp hi
 simp only [takeR, ← hu] at htk hU ⊢
 obtain ⟨n, hdn⟩ : ∃ n, d.length = n + 1 := ⟨d.length - 1, by omega⟩
 have hgn := o_oj (ws := ws) (j := k + d.length) (by omega)
 have hgm := o_oj (ws := ws) (j := k + n) (by omega)
 rw [← hug _ (by omega)] at hgn hgm
 have hwl := o_oi ws
 have hx1 := hus.getD d.length
 have hx0 := hus.getD n
 have hdt : d[n]? = some (d.getD n 0) := by rw [List.getD_eq_getElem?_getD, List.getElem?_eq_getElem (by omega)]; rfl
 have hdt2 : d[n]'(by omega) = d.getD n 0 := o_kr (by omega)
 have hdg := hd.getD n
 rw [hdn, Nat.add_sub_cancel] at htop
 have hUx : wval u / 18446744073709551616 ^ n = u.getD d.length 0 * 18446744073709551616 + u.getD n 0 := o_q3 hus (by omega) hdn
 have hDt : d.getD n 0 * 18446744073709551616 ^ n ≤ wval d := o_q2 (by omega)
 generalize u.getD d.length 0 = x1 at *
 generalize u.getD n 0 = x0 at *
 generalize hdd : d.getD n 0 = dt at *
 have hD0 : 0 < wval d := Nat.lt_of_lt_of_le (Nat.mul_pos (by omega) (Nat.pow_pos (by decide))) hDt
 have ed : IntKind.i64.wrap ((d.length : Int) - 1) = (n : Int) := by rw [w64 (by omega) (by omega)]; omega
 have hkd : ((k : Int) + d.length).toNat = k + d.length := by omega
 have hnd : (n : Int) < d.length := by omega
 have hnd' : n < d.length := by omega
 obtain ⟨g, hg, hgD, hgc⟩ : ∃ g : Nat, g ≤ 18446744073709551615 ∧ wval u / wval d ≤ g ∧ (if x1 < dt then g = (x1 * 18446744073709551616 + x0) / dt else g = 18446744073709551615) := by
  by_cases h : x1 < dt
  ·refine ⟨(x1 * 18446744073709551616 + x0) / dt, ?_, o_n5 (B := 18446744073709551616) (by decide) (Nat.pow_pos (by decide)) hUx hDt (by omega), by rw [if_pos h]⟩
   have : (x1 * 18446744073709551616 + x0) / dt < 18446744073709551616 := by
    rw [Nat.div_lt_iff_lt_mul (by omega)]
    have : (x1 + 1) * 18446744073709551616 ≤ dt * 18446744073709551616 := Nat.mul_le_mul_right _ h
    omega
   omega
  ·refine ⟨18446744073709551615, by omega, ?_, by rw [if_neg h]⟩
   have : wval u / wval d < 18446744073709551616 := by rw [Nat.div_lt_iff_lt_mul hD0, Nat.mul_comm]; exact hU
   omega
 simp only [o_hk, W] at htk ⊢
 repeat (first | refine AW.seq ?_ | refine AW.block ?_)
 refine AW.reg mix ?_
 (simp -implicitDefEqProofs; try simp (disch := omega) only [w64, wu64])
 try refine need.of (by first | omega | kernel_rfl) ?_
 repeat (first | refine AW.seq ?_ | refine AW.block ?_)
 refine AW.reg mix ?_
 (simp -implicitDefEqProofs; try simp (disch := omega) only [w64, wu64])
 try refine need.of (by first | omega | kernel_rfl) ?_
 repeat (first | refine AW.seq ?_ | refine AW.block ?_)
 refine AW.reg mix ?_
 (simp -implicitDefEqProofs; try simp (disch := omega) only [w64, wu64])
 try refine need.of (by first | omega | kernel_rfl) ?_
 refine AW.cut 1 [(6, .d (.int .u64 g))] [(0, ⟨194, uW ws⟩)] (by simp) (by simp) ?_ ?_
 ·by_cases hlt : x1 < dt
  ·rw [if_pos hlt] at hgc
   have hlt' : (x1 : Int) < dt := by omega
   refine G1 (fs hwl (fs hgn (fs hgm (fs ed (fs hkd (fs hnd (fs hnd' (fs hdt (fs hdt2 (fs hlt hlt')))))))))) ?_; try with_reducible exact tt
   refine AW.cond rfl (fun h => ?_) (fun h => ?_)
   ·have hdiv := o_of x1 x0 dt hlt hx0 hdg
    rw [← hgc] at hdiv
    refine G1 (fs hwl (fs hgn (fs hgm (fs ed (fs hkd (fs hnd (fs hnd' hdt))))))) ?_; try with_reducible exact tt
    simp only [hdt2]
    refine CallS.pu (hdiv) (R0 ?_); try with_reducible exact tt
    exact o_ol _ _
   ·simp [hlt, hlt'] at h
  ·rw [if_neg hlt] at hgc
   have hlt' : ¬ (x1 : Int) < dt := by omega
   refine G1 (fs hwl (fs hgn (fs hgm (fs ed (fs hkd (fs hnd (fs hnd' (fs hdt (fs hdt2 (fs hlt hlt')))))))))) ?_; try with_reducible exact tt
   refine AW.cond rfl (fun h => ?_) (fun h => ?_)
   ·simp [hlt, hlt'] at h
   ·refine AW.skip ?_
    subst hgc
    simp [o_ol]
 clear hgc
 have hDn : wval d < 18446744073709551616 ^ d.length := o_jo hd
 have hgM : g * wval d ≤ wval u + 18446744073709551616 ^ (d.length + 1) := by
  rw [Nat.pow_succ]
  have : g * wval d ≤ 18446744073709551616 * 18446744073709551616 ^ d.length := Nat.mul_le_mul (by omega) (by omega)
  rw [Nat.mul_comm _ 18446744073709551616]
  omega
 obtain ⟨t0, l0, ht0, hl0, hsl0, hv0, hE0⟩ : ∃ (t0 : Nat) (l0 : List Nat), t0 ≤ 1 ∧ l0.length = d.length + 1 ∧ small l0 ∧ wval l0 + g * wval d = wval u + 18446744073709551616 ^ (d.length + 1) * t0 ∧
   Eqn Tryz.prog o_i1 [.row 0 k (d.length + 1), .d (.sl d.length (d.map fun x : Nat => D.int .u64 x)), .d (.int .u64 g)] [⟨194, uW ws⟩] (.d (.int .i64 t0)) [⟨194, uW (ovr ws k l0)⟩] := by
  refine ⟨if wval u < g * wval d then 1 else 0, _, by split <;> omega, o_pd _ _, o_pe _ _, o_py hus hul hgM, ?_⟩
  have := htk g (by omega)
  rw [show ((if wval u < g * wval d then 1 else 0 : Nat) : Int) = if wval u < g * wval d then 1 else 0 by split <;> rfl]
  exact this
 clear htk hgM
 simp
 refine G0 ?_; try with_reducible exact tt
 refine CallS.o1 0 (hE0) (hO := o_qd _) (hO' := (o_qd _)) (R0 ?_); try with_reducible exact tt
 refine AW.loopT (α := Nat × Nat × List Nat) 1 (fun s => [(7, .d (.int .i64 (s.1 : Nat))), (6, .d (.int .u64 (s.2.1 : Nat)))]) (fun s => [(0, ⟨194, uW (ovr ws k s.2.2)⟩)]) (fun s => s.1 ≤ 1 ∧ s.2.1 ≤ 18446744073709551615 ∧ wval u / wval d ≤ s.2.1 ∧ s.2.2.length = d.length + 1 ∧ small s.2.2 ∧ wval s.2.2 + s.2.1 * wval d = wval u + 18446744073709551616 ^ (d.length + 1) * s.1) (fun s => s.2.1) (t0, g, l0) ?_ ?_ ⟨ht0, hg, hgD, hl0, hsl0, hv0⟩ ?_ ?_ ?_
 ·simp
 ·simp
 ·simp
 ·simp [o_ol]
 clear hE0 hl0 hsl0 hv0 ht0 hg hgD
 rintro ⟨t, g, l⟩ ⟨ht, hg, hgD, hl, hsl, hv⟩
 simp only at ht hg hgD hl hsl hv
 simp
 rcases (by omega : t = 0 ∨ t = 1) with rfl | rfl
 ·rw [Nat.mul_zero, Nat.add_zero] at hv
  obtain ⟨hq, hr⟩ := o_n7 hD0 hgD hv
  have hlw := o_ph hsl hl hr.symm
  refine G0 ?_; try with_reducible exact tt
  refine AW.cond rfl (fun h => ?_) (fun h => ?_)
  ·simp at h
  refine AW.exit ?_
  (try (simp -implicitDefEqProofs; try simp (disch := omega) only [w64, wu64]))
  refine G0 ?_; try with_reducible exact tt
  rw [← hlw]
  refine ⟨Sub1.int ?_, Subs.refl _⟩
  rw [← hq]; rfl
 ·rw [Nat.mul_one] at hv
  obtain ⟨hg0, hn1, hn2⟩ := o_n6 (P := 18446744073709551616 ^ d.length) (by rw [Nat.pow_succ, Nat.mul_comm]) hDn hD0 hg (by rw [← hl]; exact o_jo hsl) hv
  have ew : IntKind.u64.wrap ((g : Int) - 1) = ((g - 1 : Nat) : Int) := by rw [wu64 (by omega) (by omega)]; omega
  refine G1 ew ?_; try with_reducible exact tt
  refine AW.cond rfl (fun h => ?_) (fun h => ?_)
  rotate_left
  ·simp at h
  refine G1 ew ?_; try with_reducible exact tt
  have hwlen : (ovr ws k l).length = ws.length := o_pi (by omega)
  have hlg : ∀ j, j < d.length + 1 → (ovr ws k l).getD (k + j) 0 = l.getD j 0 := fun j hj => o_pz (by omega) (by omega)
  have hws1 : small (ovr ws k l) := o_pj hs hsl
  have hoo : ∀ r, r.length = d.length + 1 → ovr (ovr ws k l) k r = ovr ws k r := fun r hr => o_pn (by omega) (by omega)
  refine AW.loopT (α := Nat × Nat × List Nat) 1 (fun s => [(53, .d (.int .i64 (s.1 : Nat))), (8, .d (.int .u64 (s.2.1 : Nat)))]) (fun s => [(0, ⟨194, uW (ovr (ovr ws k l) k s.2.2)⟩)]) (fun s => s.1 ≤ d.length ∧ s.2.1 ≤ 1 ∧ s.2.2.length = s.1 ∧ small s.2.2 ∧ wval s.2.2 + 18446744073709551616 ^ s.1 * s.2.1 = wval (l.take s.1) + wval (d.take s.1)) (fun s => d.length - s.1) (0, 0, []) ?_ ?_ ⟨Nat.zero_le _, by simp, rfl, o_pu, by simp [wval]⟩ ?_ ?_ ?_
  ·simp
  ·simp
  ·simp
  ·simp [o_ol, o_pk]
  rintro ⟨j, c, r⟩ ⟨hj, hc, hr, hsr, hv2⟩
  simp only at hj hc hr hsr hv2
  simp
  have hol : (uW (ovr (ovr ws k l) k r)).length = ws.length := by rw [o_oi, o_pi (by omega), hwlen]
  have hget := o_oj (ws := ovr (ovr ws k l) k r) (j := k + j) (by rw [← o_oi, hol]; omega)
  have hnx := o_pl (ws := ovr ws k l) (k := k) (l := r) (by omega)
  rw [hr] at hnx
  rw [hnx, hlg j (by omega)] at hget
  have hx := hsl.getD j
  have hset : ∀ v : Nat, (uW (ovr (ovr ws k l) k r)).set (k + j) (.d (.int .u64 v)) = uW (ovr (ovr ws k l) k (r ++ [v])) := fun v => by rw [o_ok, ← hr, o_pm (by omega)]
  have hkj : ((k : Int) + j).toNat = k + j := by omega
  obtain ⟨x, hxd⟩ : ∃ x, x = l.getD j 0 := ⟨_, rfl⟩
  rw [← hxd] at hget hx
  by_cases hjn : j < d.length
  ·have hjn' : (j : Int) < d.length := by omega
   have hy : d[j] < 18446744073709551616 := hd _ (List.getElem_mem _)
   have hyd : d[j] = d.getD j 0 := o_kr hjn
   have e2 : IntKind.i64.wrap ((j : Int) + 1) = ((j + 1 : Nat) : Int) := by rw [w64 (by omega) (by omega)]; omega
   refine G1 (fs hjn hjn') ?_; try with_reducible exact tt
   refine AW.cond rfl (fun h => ?_) (fun h => ?_)
   rotate_left
   ·simp [hjn, hjn'] at h
   clear h
   refine G1 (fs hjn (fs hjn' (fs hol (fs hget hkj)))) ?_; try with_reducible exact tt
   generalize d[j] = y at hy hyd ⊢
   obtain ⟨z, nc, hzc, hz, hnc⟩ : ∃ z nc : Nat, x + y + c = z + 18446744073709551616 * nc ∧ z < 18446744073709551616 ∧ nc ≤ 1 := ⟨(x + y + c) % 18446744073709551616, (x + y + c) / 18446744073709551616, by omega, by omega, by omega⟩
   have hround := o_q0 hv2 hzc
   rw [show wval r + 18446744073709551616 ^ j * z = wval (r ++ [z]) by rw [o_pt, hr], show wval (l.take j) + 18446744073709551616 ^ j * x = wval (l.take (j + 1)) by rw [o_k7, ← hxd], show wval (d.take j) + 18446744073709551616 ^ j * y = wval (d.take (j + 1)) by rw [o_k7, ← hyd], ← Nat.pow_succ] at hround
   refine CallS.pu (o_kx x y c z nc hx hy hc hz hzc) (R1 (fs hol (fs hkj (fs hset e2))) ?_); try with_reducible exact tt
   exact ⟨j + 1, nc, r ++ [z], ⟨hjn, hnc, by simp [hr], o_ps hsr hz, hround⟩, by omega, by simp, Subs.refl _, o_ol _ _⟩
  ·have h2 : j = d.length := by omega
   subst h2
   rw [List.take_length] at hv2
   have hlx : wval l = wval (l.take d.length) + 18446744073709551616 ^ d.length * x := by rw [hxd, ← o_k7, List.take_of_length_le (by omega)]
   obtain ⟨v, nv, hvc, hvl, hnv⟩ : ∃ v nv : Nat, x + c = v + 18446744073709551616 * nv ∧ v < 18446744073709551616 ∧ nv ≤ 1 := ⟨(x + c) % 18446744073709551616, (x + c) / 18446744073709551616, by omega, by omega, by omega⟩
   have wv : IntKind.u64.wrap ((x : Int) + c) = (v : Int) := by rw [IntKind.wrap_u64]; omega
   have hrv : (r ++ [v]).length = d.length + 1 := by simp [hr]
   have hsum := o_q1 (p := 18446744073709551616 ^ d.length) (wr := wval r) (c := c) (x := x) hv2 hlx hvc
   rw [show wval r + 18446744073709551616 ^ d.length * v = wval (r ++ [v]) by rw [o_pt, hr], ← Nat.pow_succ] at hsum
   have hrlt := o_jo (o_ps hsr hvl)
   rw [hrv] at hrlt
   replace hset := hset v
   rw [hoo _ hrv] at hset
   have hget2 := o_oj (ws := ovr ws k (r ++ [v])) (j := k + d.length) (by rw [o_pi (by omega)]; omega)
   rw [o_pz (by omega) (by omega), show (r ++ [v]).getD d.length 0 = v by rw [← hr]; simp] at hget2
   refine G0 ?_; try with_reducible exact tt
   refine AW.cond rfl (fun h => ?_) (fun h => ?_)
   ·simp at h
   refine AW.exit ?_
   (try (simp -implicitDefEqProofs; try simp (disch := omega) only [w64, wu64]))
   have hol2 : (uW (ovr ws k (r ++ [v]))).length = ws.length := by rw [o_oi, o_pi (by omega)]
   have hsr2 := o_ps hsr hvl
   generalize hr2 : r ++ [v] = r2 at *
   have hrw : wval r < 18446744073709551616 ^ d.length := by rw [← hr]; exact o_jo hsr
   have hrw2 : wval r2 = wval r + 18446744073709551616 ^ d.length * v := by rw [← hr2, o_pt, hr]
   by_cases hv0 : v = 0
   ·subst hv0
    have hnv1 : nv = 1 := by
     rcases (by omega : nv = 0 ∨ nv = 1) with rfl | h
     ·exfalso
      rw [Nat.mul_zero, Nat.add_zero] at hsum
      rw [Nat.mul_zero, Nat.add_zero] at hrw2
      have := (hn2 (by omega)).2
      omega
     ·exact h
    subst hnv1
    rw [Nat.mul_one] at hsum
    obtain ⟨k1, k2, k3, -⟩ := hn1 (by omega)
    simp at hset hget2 wv
    refine G1 (fs hol (fs hget (fs hkj (fs wv (fs hset (fs hget2 hol2)))))) ?_; try with_reducible exact tt
    refine AW.cond rfl (fun h => ?_) (fun h => ?_)
    ·simp at h
    repeat (first | refine AW.seq ?_ | refine AW.block ?_ | (refine AW.reg mix ?_; simp -implicitDefEqProofs; try simp (disch := omega) only [w64, wu64]) | (refine need.of (by first | omega | kernel_rfl) ?_) | (refine AW.fin ?_; try simp -implicitDefEqProofs))
    (try (simp -implicitDefEqProofs; try simp (disch := omega) only [w64, wu64]))
    repeat (first | refine AW.seq ?_ | refine AW.block ?_ | (refine AW.reg mix ?_; simp -implicitDefEqProofs; try simp (disch := omega) only [w64, wu64]) | (refine need.of (by first | omega | kernel_rfl) ?_) | (refine AW.fin ?_; try simp -implicitDefEqProofs))
    refine ⟨0, g - 1, r2, ⟨by omega, by omega, by omega, hrv, hsr2, ?_⟩, by omega, by simp, ?_⟩
    ·rw [Nat.mul_zero, Nat.add_zero, ← k1]; omega
    ·exact ⟨Subs.refl _, o_ol _ _⟩
   ·have hnv0 : nv = 0 := by omega
    subst hnv0
    rw [Nat.mul_zero, Nat.add_zero] at hsum
    obtain ⟨k1, k2⟩ := hn2 (by omega)
    refine G1 (fs hol (fs hget (fs hkj (fs wv (fs hset (fs hget2 (fs hol2 hv0))))))) ?_; try with_reducible exact tt
    refine AW.cond rfl (fun h => ?_) (fun h => ?_)
    rotate_left
    ·simp [hv0] at h
    repeat (first | refine AW.seq ?_ | refine AW.block ?_ | (refine AW.reg mix ?_; simp -implicitDefEqProofs; try simp (disch := omega) only [w64, wu64]) | (refine need.of (by first | omega | kernel_rfl) ?_) | (refine AW.fin ?_; try simp -implicitDefEqProofs))
    (try (simp -implicitDefEqProofs; try simp (disch := omega) only [w64, wu64]))
    repeat (first | refine AW.seq ?_ | refine AW.block ?_ | (refine AW.reg mix ?_; simp -implicitDefEqProofs; try simp (disch := omega) only [w64, wu64]) | (refine need.of (by first | omega | kernel_rfl) ?_) | (refine AW.fin ?_; try simp -implicitDefEqProofs))
    refine ⟨1, g - 1, r2, ⟨by omega, by omega, ?_, hrv, hsr2, ?_⟩, by omega, by simp, ?_⟩
    ·exact Nat.div_le_of_le_mul (by rw [Nat.mul_comm]; omega)
    ·omega
    ·exact ⟨Subs.refl _, o_ol _ _⟩
end
section
open Go.RowKit
set_option maxHeartbeats 1000000 in
theorem o_qh (A : List Nat) (k : Nat) (hk : k < 64) (hs : small A) (hn : A.length ≤ 1000000) : Eqn Tryz.prog o_hg [.d (W A), .d (.int .i64 k)] [] (.own 0 1 (A.length + 1)) [⟨194, uW (movedL k 0 A)⟩] := by
 refine Eqn.gen [0] o_hi (by simp) (by simp) (by rfl) (by decide) (by simp) (by simp [o_ol]) ?_
 simp only [o_hh, W]
 refine G0 ?_; try with_reducible exact tt
 rw [show List.replicate (A.length + 1) (V.d (.int .u64 0)) = cellM k A 0 by rw [cellM, o_lg]; simp [U]]
 have hlow : ∀ i, V.lowl 1 (cellM k A i) = true := fun i => o_lk 1 _
 refine AW.loopT (α := Nat) 1 (fun i => [(14, .d (.int .i64 (i : Int)))]) (fun i => [(0, ⟨194, cellM k A i⟩)]) (fun i => i ≤ A.length) (fun i => A.length - i) 0 ?_ ?_ (Nat.zero_le _) ?_ ?_ ?_
 ·simp
 ·simp
 ·simp
 ·simp [hlow]
 rintro i hi
 simp
 by_cases h : i = A.length
 ·subst h
  refine G0 ?_; try with_reducible exact tt
  refine AW.cond rfl (fun h => ?_) (fun h => ?_)
  ·simp at h
  refine AW.exit ?_
  (try (simp -implicitDefEqProofs; try simp (disch := omega) only [w64, wu64]))
  rw [cellM, o_lh]
  repeat (first | refine AW.seq ?_ | refine AW.block ?_ | (refine AW.reg mix ?_; simp -implicitDefEqProofs [uW]; try simp (disch := omega) only [w64, wu64]) | (refine need.of (by first | omega | kernel_rfl) ?_) | (refine AW.fin ?_; try simp -implicitDefEqProofs [uW]))
  rw [show U (movedL k 0 A) = uW (movedL k 0 A) from rfl, o_qc]
  exact Subs.refl _
 ·have hi' : i < A.length := by omega
  have hp : (i : Int) < A.length := by omega
  obtain ⟨c, y, u, hl, hq, hor, hw, hd, hset⟩ : ∃ c z u : Nat, (cellM k A i).length = A.length + 1 ∧ (cellM k A i)[i]? = some (.d (.int .u64 c)) ∧ bits BinOp.or IntKind.u64 (c : Int) (IntKind.u64.wrap ((A[i] : Int) * 2 ^ k)) = (z : Int) ∧
    True ∧ (A[i] : Int) / 2 ^ (64 - k) = (u : Int) ∧ ((cellM k A i).set i (.d (.int .u64 z))).set (i + 1) (.d (.int .u64 u)) = cellM k A (i + 1) := by
   have hl := o_lf k A i hi
   have hc := o_k2 (k := k) (l := A.take i) (c := 0) (hs.take i) (Nat.two_pow_pos k)
   have hset := o_lj k A i hi'
   rw [← o_kr hi'] at hset
   refine ⟨movedC k 0 (A.take i), A[i] * 2 ^ k % 18446744073709551616 + movedC k 0 (A.take i), A[i] * 2 ^ k / 18446744073709551616, by simp [cellM, U, hl], ?_, ?_, trivial, ?_, ?_⟩
   ·have := o_li k A i hi'
    rw [List.getD, List.getElem?_eq_getElem (by omega)] at this
    rw [cellM, U, List.getElem?_map, List.getElem?_eq_getElem (by omega)]
    simp at this
    simp [this]
   ·rw [show IntKind.u64.wrap ((A[i] : Int) * 2 ^ k) = ((A[i] * 2 ^ k % 18446744073709551616 : Nat) : Int) by rw [IntKind.wrap_u64, Int.natCast_emod, Int.natCast_mul, Int.natCast_pow]; rfl]
    rw [bits_or_u64_nat _ _ (Nat.lt_of_lt_of_le hc (by rw [show (18446744073709551616 : Nat) = 2 ^ 64 by rfl]; exact Nat.pow_le_pow_right (by decide) (by omega))) (Nat.mod_lt _ (by decide)), o_k3 hk hc]
   ·rw [o_k4 (by omega), Int.natCast_ediv, Int.natCast_pow]; rfl
   ·rw [cellM, cellM, ← hset, U, U, List.map_set, List.map_set]
  have hn : ((64 : Int) - k).toNat = 64 - k := by omega
  have e1 : IntKind.i64.wrap ((i : Int) + 1) = (i : Int) + 1 := w64 (by omega) (by omega)
  have e2 : IntKind.i64.wrap ((64 : Int) - k) = (64 : Int) - k := w64 (by omega) (by omega)
  generalize cellM k A i = cm at hl hq hset
  refine G1 (fs hi' hp) ?_; try with_reducible exact tt
  refine AW.cond rfl (fun h => ?_) (fun h => ?_)
  ·clear h
   refine G1 (fs hi' (fs hp (fs hl (fs hq (fs hor (fs e1 (fs e2 (fs hn (fs hd hset))))))))) ?_; try with_reducible exact tt
   exact ⟨i + 1, by omega, by omega, by simp [wk], by simp [wkH, hlow]⟩
  ·simp at h

theorem o_qi (n s : Nat) (ds : List D) (ws : List Nat) : V.frzs n s ds (uW ws) = uW ws := by
 rw [o_53, uW, U, List.map_map]; rfl
theorem uW_d (ws : List Nat) : uW ws = (ws.map fun x : Nat => D.int .u64 x).map V.d := by rw [List.map_map]; rfl

set_option maxHeartbeats 4000000 in
theorem o_qj (a b : Nat) (hb : 18446744073709551616 ≤ b) (hab : b ≤ a) (ha : size a ≤ 900000) : Eqn Tryz.prog o_g1 [.d (.agg [natW a]), .d (.agg [natW b])] [] (.tup [.d (.agg [natW (a / b)]), .d (.agg [natW (a % b)]), .d (.int .i64 0)]) [] := by
 refine Eqn.pure o_g3 Plain.ok ?_
 have hba := o_ld hab
 unfold size at ha hba
 have hsA := o_kk a
 have hsB := o_kk b
 have htB := o_kl b
 have hvA := o_kj a
 have hvB := o_kj b
 have hB2 : 2 ≤ (words b).length := by
  rcases Nat.lt_or_ge (words b).length 2 with h | h
  ·exfalso
   have := o_jo hsB
   rw [hvB] at this
   have h2 : 18446744073709551616 ^ (words b).length ≤ 18446744073709551616 ^ 1 := Nat.pow_le_pow_right (by decide) (by omega)
   omega
  ·exact h
 simp only [o_g2, natW, W]
 generalize words a = A at *
 generalize words b = Bw at *
 obtain ⟨n, hn⟩ : ∃ n, Bw.length = n + 1 := ⟨Bw.length - 1, by omega⟩
 have htop := htB n hn
 have htl := hsB.getD n
 have hget : Bw[n]'(by omega) = Bw.getD n 0 := o_kr (by omega)
 have hlead := o_ne (Bw.getD n 0) htl
 have e1 : IntKind.i64.wrap ((Bw.length : Int) - 1) = (n : Int) := by rw [w64 (by omega) (by omega)]; omega
 have hnB : n < Bw.length := by omega
 have hnB' : (n : Int) < Bw.length := by omega
 generalize Bw.getD n 0 = top at *
 obtain ⟨s, hs⟩ : ∃ s, s = 64 - bitsN top := ⟨_, rfl⟩
 rw [← hs] at hlead
 have hs64 : s < 64 := by have := (o_mx (n := top) (by omega)).2; omega
 have hmB := o_ll Bw s hs64 hsB (by omega)
 have hmA := o_qh A s hs64 hsA (by omega)
 simp only [W, o_ju] at hmB
 refine G1 (fs e1 (fs hnB (fs hnB' hget))) ?_; try with_reducible exact tt
 refine CallS.pu (hlead) (R1 (fs e1 (fs hnB (fs hnB' hget))) ?_); try with_reducible exact tt
 refine CallS.pu (hmB) (R1 (fs e1 (fs hnB (fs hnB' hget))) ?_); try with_reducible exact tt
 have hlm : (A.length : Int) + 1 - Bw.length = ((A.length - n : Nat) : Int) := by omega
 have hlm2 : IntKind.i64.wrap ((A.length : Int) + 1 - Bw.length) = ((A.length - n : Nat) : Int) := by rw [w64 (by omega) (by omega), hlm]
 have hlm3 : IntKind.i64.wrap (((A.length - n : Nat) : Int) - 1) = ((A.length - n : Nat) : Int) - 1 := w64 (by omega) (by omega)
 refine CallS.nX (hmA) (hO' := (o_qd _)) (R1 (fs e1 (fs hnB (fs hnB' (fs hget (fs hlm2 hlm3))))) ?_); try with_reducible exact tt
 have hnA : n + 1 ≤ A.length := by omega
 have hbn : 18446744073709551616 ^ n ≤ wval Bw := by
  have h1 := o_q2 (d := Bw) (n := n) hnB
  rw [o_kr hnB] at hget
  rw [hget] at h1
  have : 1 * 18446744073709551616 ^ n ≤ top * 18446744073709551616 ^ n := Nat.mul_le_mul_right _ (by omega)
  omega
 have hD2 : wval Bw * 2 ^ s < 18446744073709551616 ^ Bw.length := by
  have h1 := o_k7 Bw n
  rw [List.take_of_length_le (by omega)] at h1
  rw [o_kr hnB] at hget
  rw [hget] at h1
  have h2 := o_kg hsB n
  have h3 : top < 2 ^ bitsN top := o_mu top
  have h4 : wval Bw < 2 ^ bitsN top * 18446744073709551616 ^ n := by
   have : (top + 1) * 18446744073709551616 ^ n ≤ 2 ^ bitsN top * 18446744073709551616 ^ n := Nat.mul_le_mul_right _ h3
   rw [Nat.add_mul, Nat.one_mul, Nat.mul_comm top] at this
   omega
  have h5 : wval Bw * 2 ^ s < 2 ^ bitsN top * 18446744073709551616 ^ n * 2 ^ s := Nat.mul_lt_mul_of_pos_right h4 (Nat.two_pow_pos s)
  have h6 : 2 ^ bitsN top * 18446744073709551616 ^ n * 2 ^ s = 18446744073709551616 ^ Bw.length := by
   have hb64 : bitsN top ≤ 64 := o_mv htl
   rw [Nat.mul_right_comm, ← Nat.pow_add, show bitsN top + s = 64 by omega, hn, Nat.pow_succ, Nat.mul_comm]
   rfl
  omega
 have hDv := o_qb hD2
 have hsd : small ((movedL s 0 Bw).take Bw.length) := (o_jw hs64 hsB (Nat.two_pow_pos s)).take _
 have hdl : ((movedL s 0 Bw).take Bw.length).length = n + 1 := by rw [List.length_take, o_ju]; omega
 have hU0 := o_jv s A 0
 have hsU : small (movedL s 0 A) := o_jw hs64 hsA (Nat.two_pow_pos s)
 have hlU := o_ju s A 0
 rw [Nat.add_zero] at hU0
 have hp2 := Nat.two_pow_pos s
 have hD0 : 18446744073709551616 ^ n * 2 ^ s ≤ wval Bw * 2 ^ s := Nat.mul_le_mul_right _ hbn
 have hDpos : 0 < wval Bw * 2 ^ s := Nat.lt_of_lt_of_le (Nat.mul_pos (Nat.pow_pos (by decide)) hp2) hD0
 simp only [← List.map_take]
 generalize hdd : (movedL s 0 Bw).take Bw.length = d at *
 generalize hUU : movedL s 0 A = u0 at *
 have hdtop : d.getD (d.length - 1) 0 ≠ 0 := by
  intro h0
  have h1 := o_k7 d n
  have he : d.take (n + 1) = d := List.take_of_length_le (by omega)
  rw [he] at h1
  rw [hdl, Nat.add_sub_cancel] at h0
  rw [h0, Nat.mul_zero, Nat.add_zero] at h1
  have h2 := o_kg hsd n
  have h3 : 18446744073709551616 ^ n * 1 ≤ 18446744073709551616 ^ n * 2 ^ s := Nat.mul_le_mul_left _ hp2
  omega
 generalize hm : A.length - n = m at *
 have hstart : wval ((u0.drop m).take (n + 1)) < wval d := by
  have h1 := o_q5 (ws := u0) m (n + 1) (by omega)
  rw [List.take_of_length_le (by omega), hU0] at h1
  have h2 := o_jo hsA
  have h3 : wval A * 2 ^ s < 18446744073709551616 ^ A.length * 2 ^ s := Nat.mul_lt_mul_of_pos_right h2 hp2
  rw [hDv]
  refine Nat.lt_of_lt_of_le ?_ hD0
  have h4 : 18446744073709551616 ^ A.length = 18446744073709551616 ^ m * 18446744073709551616 ^ n := by rw [← Nat.pow_add]; congr 1; omega
  rw [h4, Nat.mul_assoc] at h3
  have h5 : 18446744073709551616 ^ m * wval ((u0.drop m).take (n + 1)) < 18446744073709551616 ^ m * (18446744073709551616 ^ n * 2 ^ s) := by omega
  exact Nat.lt_of_mul_lt_mul_left h5
 have hdlt : wval d < 18446744073709551616 ^ (n + 1) := by rw [← hdl]; exact o_jo hsd
 have htkall : u0.take (m + (n + 1)) = u0 := List.take_of_length_le (by omega)
 have hdB : d.length = Bw.length := by omega
 rw [show List.replicate m (V.d (.int .u64 0)) = uW (List.replicate m 0 ++ []) by simp [uW, U]]
 refine AW.loopT (α := Nat × List Nat × List Nat) 6 (fun s => [(12, .d (.int .i64 ((s.1 : Int) - 1)))]) (fun s => [(4, ⟨194, uW s.2.1⟩), (5, ⟨194, uW (List.replicate s.1 0 ++ s.2.2)⟩)]) (fun s => s.1 ≤ m ∧ s.2.1.length = A.length + 1 ∧ small s.2.1 ∧ s.2.2.length = m - s.1 ∧ small s.2.2 ∧ wval u0 = wval (s.2.1.take (s.1 + (n + 1))) + wval d * (18446744073709551616 ^ s.1 * wval s.2.2) ∧ wval ((s.2.1.drop s.1).take (n + 1)) < wval d) (fun s => s.1) (m, u0, []) ?_ ?_ ⟨Nat.le_refl _, hlU, hsU, by simp, o_pu, by rw [htkall]; simp [wval], hstart⟩ ?_ ?_ ?_
 ·simp
 ·simp
 ·simp
 ·simp [o_ol]
 clear hstart hsU hlU
 rintro ⟨kk, ws, q⟩ ⟨hkm, hwl, hws, hql, hsq, hv, hlt⟩
 simp only at hkm hwl hws hql hsq hv hlt
 simp
 cases kk with
 | zero =>
  refine G0 ?_; try with_reducible exact tt
  refine AW.cond rfl (fun h => ?_) (fun h => ?_)
  ·simp at h
  refine AW.exit ?_
  (try (simp -implicitDefEqProofs; try simp (disch := omega) only [w64, wu64]))
  rw [Nat.zero_add, Nat.pow_zero, Nat.one_mul] at hv
  rw [List.drop_zero] at hlt
  rw [Nat.sub_zero] at hql
  have hdp : 0 < wval d := by omega
  have hqv : wval q = wval u0 / wval d := by rw [hv, Nat.add_mul_div_left _ _ hdp, Nat.div_eq_of_lt hlt, Nat.zero_add]
  have hrv : wval (ws.take (n + 1)) = wval u0 % wval d := by rw [hv, Nat.add_mul_mod_self_left, Nat.mod_eq_of_lt hlt]
  obtain ⟨k1, k2⟩ := o_n4 (n := wval A) (y := wval Bw) (s := s)
  rw [hU0, hDv] at hqv hrv
  rw [k1] at hqv
  have ht1 := o_ks q hsq (by omega)
  have ht2 := o_ks (ws.take (n + 1)) (hws.take _) (by rw [List.length_take]; omega)
  have hl2 : (ws.take (n + 1)).length = n + 1 := by rw [List.length_take]; omega
  have hsz : size (wval (ws.take (n + 1))) ≤ 1000000 := Nat.le_trans (o_k5 (o_kl _) (m := n + 1) (by rw [o_kj]; have := o_jo (hws.take (n + 1)); rw [hl2] at this; exact this)) (by omega)
  have ht3 := o_no (wval (ws.take (n + 1))) s hsz (by omega)
  rw [hrv, k2, ← hrv] at ht3
  rw [hqv] at ht1
  simp only [natW, W, hql, hl2] at ht1 ht2 ht3
  refine AW.freeze 4 1 ⟨194, uW ws⟩ (ws.map fun x : Nat => D.int .u64 x) (by rfl) (uW_d ws) ?_
  simp [o_qi]
  refine AW.freeze 5 1 ⟨194, uW q⟩ (q.map fun x : Nat => D.int .u64 x) (by rfl) (uW_d q) ?_
  have hqt : q.take m = q := List.take_of_length_le (by omega)
  have hwt : ws.take (A.length + 1) = ws := List.take_of_length_le (by omega)
  have hnAl : (Bw.length : Int) ≤ (A.length : Int) + 1 := by omega
  simp [o_qi, ← List.map_take, hqt, hwt]
  refine G1 hnAl ?_; try with_reducible exact tt
  refine CallS.pu (ht1) (R1 hnAl ?_); try with_reducible exact tt
  rw [← List.map_take, hn]
  refine CallS.pu (ht2) (R0 ?_); try with_reducible exact tt
  refine CallS.pu (ht3) (R0 ?_); try with_reducible exact tt
  rw [hvA, hvB]
  exact Sub1.refl _
 | succ k =>
  have hg0 : (0 : Int) ≤ k := by omega
  refine G1 hg0 ?_; try with_reducible exact tt
  refine AW.cond rfl (fun h => ?_) (fun h => ?_)
  rotate_left
  ·simp at h
  have w1 : IntKind.i64.wrap ((k : Int) + Bw.length) = (k : Int) + Bw.length := w64 (by omega) (by omega)
  have w2 : IntKind.i64.wrap ((k : Int) + Bw.length + 1) = (k : Int) + Bw.length + 1 := w64 (by omega) (by omega)
  have w3 : ((k : Int) + Bw.length + 1).toNat - k = Bw.length + 1 := by omega
  have w4 : IntKind.i64.wrap ((k : Int) - 1) = (k : Int) - 1 := w64 (by omega) (by omega)
  have hc1 : (k : Int) ≤ (k : Int) + Bw.length + 1 := by omega
  have hc2 : (k : Int) + Bw.length + 1 ≤ (A.length : Int) + 1 := by omega
  have hseg := o_q8 (ws := ws) (k := k) (m := n + 1) (by omega)
  have hxk := hws.getD k
  have hS : wval ((ws.drop k).take (d.length + 1)) < wval d * 18446744073709551616 := by
   rw [hdl, hseg]; omega
  have hdig := o_qg ws d k hws hsd (by omega) (by omega) (by omega) hdtop hS
  simp only [W] at hdig
  rw [hdB] at hdig hS
  obtain ⟨S, hSd⟩ : ∃ S, S = wval ((ws.drop k).take (Bw.length + 1)) := ⟨_, rfl⟩
  have hvs := o_q5 (ws := ws) k (Bw.length + 1) (by omega)
  rw [← hSd] at hdig hS hvs
  rw [show k + 1 + (n + 1) = k + (Bw.length + 1) by omega] at hv
  have hround := o_q4 (Bk := 18446744073709551616 ^ k) (S := S) (Q := wval q) (D := wval d) (W1 := wval (ws.take k)) (U0 := wval u0) (BQ := 18446744073709551616 ^ (k + 1) * wval q) (by rw [hv, ← hvs]) (by rw [Nat.pow_succ])
  have hdp : 0 < wval d := by omega
  have hmodl : S % wval d < wval d := Nat.mod_lt _ hdp
  have hlow := o_q9 (ws := ws) (k := k) (n := Bw.length) (x := S % wval d) (by omega) (by rw [hn]; exact Nat.lt_trans hmodl hdlt)
  have hwn := o_pd (Bw.length + 1) (S % wval d)
  have hwlen : (ovr ws k (wordsN (Bw.length + 1) (S % wval d))).length = ws.length := o_pi (by omega)
  have hsm := o_pj (k := k) hws (o_pe (Bw.length + 1) (S % wval d))
  have hseg2 := o_q5 (ws := ovr ws k (wordsN (Bw.length + 1) (S % wval d))) k Bw.length (by omega)
  rw [o_q7 (by omega), hlow] at hseg2
  have hqd : S / wval d < 18446744073709551616 := by rw [Nat.div_lt_iff_lt_mul hdp, Nat.mul_comm]; exact hS
  have hset : (uW (List.replicate (k + 1) 0 ++ q)).set k (.d (.int .u64 (S / wval d : Nat))) = uW (List.replicate k 0 ++ (S / wval d) :: q) := by rw [o_ok, o_qa]
  have hol : (uW (List.replicate (k + 1) 0 ++ q)).length = m := by rw [o_oi]; simp; omega
  generalize ovr ws k (wordsN (Bw.length + 1) (S % wval d)) = ws' at *
  generalize S / wval d = q0 at *
  refine G1 (fs w1 (fs w2 (fs w3 (fs hg0 (fs hc1 hc2))))) ?_; try with_reducible exact tt
  refine CallS.o1 4 (hdig) (hO := o_qd _) (hO' := (o_qd _)) (R1 (fs hol (fs hset w4)) ?_); try with_reducible exact tt
  refine ⟨k, ws', q0 :: q, ⟨by omega, by omega, hsm, by simp [hql]; omega, fun y hy => ?_, ?_, ?_⟩, by omega, by simp, ⟨Subs.refl _, o_ol _ _⟩, Subs.refl _, o_ol _ _⟩
  ·rcases List.mem_cons.1 hy with rfl | hy
   ·exact hqd
   ·exact hsq y hy
  ·rw [← hn, hseg2]; exact hround
  ·rw [← hn, hlow]; exact hmodl
end
section
open Go.RowKit
theorem o_qk (a b : Nat) (ha : size a ≤ 900000) (h0 : 0 < b) (hbs : size b ≤ 900000) : Eqn Tryz.prog o_d0 [.d (.agg [natW a]), .d (.agg [natW b])] [] (.tup [.d (.agg [natW (a / b)]), .d (.agg [natW (a % b)]), .d (.int .i64 0)]) [] := by
 by_cases hsm : b < 18446744073709551616 ∨ a < b
 ·exact o_ot a b (by omega) h0 hsm (by omega)
 ·have hb1 : 18446744073709551616 ≤ b := by omega
  have hab : b ≤ a := by omega
  refine Eqn.pure o_d2 (o_l9 _ _ _) ?_
  have hlong := o_qj a b hb1 hab ha
  have hz : (b == 0) = false := by simp; omega
  have hsz : 2 ≤ (words b).length := by
   rcases Nat.lt_or_ge (words b).length 2 with h | h
   ·exfalso
    have := o_jo (o_kk b)
    rw [o_kj] at this
    have h2 : 18446744073709551616 ^ (words b).length ≤ 18446744073709551616 ^ 1 := Nat.pow_le_pow_right (by decide) (by omega)
    omega
   ·exact h
  obtain ⟨bn, bl, e', hbn⟩ : ∃ bn bl, natW b = .sl bn bl ∧ bn ≠ 1 := ⟨_, _, rfl, by omega⟩
  have hbn' : ¬ (bn : Int) = 1 := by omega
  have hcz : ¬ cmpZ a b < 0 := by rw [o_lq]; omega
  simp only [o_d1]
  refine G0 ?_; try with_reducible exact tt
  refine CallS.pu (o_ku b) (R0 ?_); try with_reducible exact tt
  refine AW.cond rfl (fun h => ?_) (fun h => ?_)
  ·simp [hz] at h
  refine G0 ?_; try with_reducible exact tt
  refine CallS.pu (o_kw a b (by omega) (by omega)) (R1 hcz ?_); try with_reducible exact tt
  refine AW.cond rfl (fun h => ?_) (fun h => ?_)
  ·simp [hcz] at h
  rw [e'] at hlong
  refine G1 (fs e' (fs hbn hbn')) ?_; try with_reducible exact tt
  refine AW.cond rfl (fun h => ?_) (fun h => ?_)
  ·simp [hbn, hbn'] at h
  ·refine G0 ?_; try with_reducible exact tt
   refine CallS.pu (hlong) (R0 ?_); try with_reducible exact tt

theorem o_ql (a b : Nat) (ha : size a ≤ 900000) (hb : size b ≤ 900000) : Eqn Tryz.prog o_cx [.d (.agg [natW a]), .d (.agg [natW b])] [] (.d (.agg [natW (Nat.gcd a b)])) [] := by
 refine Eqn.pure o_cz (o_58 _) ?_
 simp only [o_cy]
 refine G0 ?_; try with_reducible exact tt
 refine AW.loopT (α := Nat × Nat) 3 (fun _ => []) (fun p => [(0, ⟨25, [.d (natW p.1)]⟩), (1, ⟨25, [.d (natW p.2)]⟩)]) (fun p => size p.1 ≤ 900000 ∧ size p.2 ≤ 900000 ∧ Nat.gcd p.1 p.2 = Nat.gcd a b) (fun p => p.2) (a, b) ?_ ?_ ⟨ha, hb, rfl⟩ ?_ ?_ ?_
 ·simp
 ·simp
 ·simp
 ·simp
 rintro ⟨x, y⟩ ⟨hx, hy, hg⟩
 simp only at hx hy hg
 simp
 refine G0 ?_; try with_reducible exact tt
 refine CallS.pu (o_ku y) (R0 ?_); try with_reducible exact tt
 by_cases h0 : y = 0
 ·subst h0
  rw [Nat.gcd_zero_right] at hg
  subst hg
  refine AW.cond rfl (fun h => ?_) (fun h => ?_)
  ·simp at h
  refine AW.exit ?_
  (try (simp -implicitDefEqProofs; try simp (disch := omega) only [w64, wu64]))
  refine G0 ?_; try with_reducible exact tt
  refine CallS.pu (o_kt (words (Nat.gcd a b)) (o_kk _) (by unfold size at hx; omega)) (R0 ?_); try with_reducible exact tt
  refine Sub1.of ?_
  rw [o_kj]
 ·have hy0 : 0 < y := by omega
  refine AW.cond rfl (fun h => ?_) (fun h => ?_)
  ·refine G0 ?_; try with_reducible exact tt
   refine CallS.pu (o_qk x y hx hy0 hy) (R0 ?_); try with_reducible exact tt
   refine ⟨y, x % y, ⟨hy, Nat.le_trans (o_ld (Nat.mod_le x y)) hx, ?_⟩, Nat.mod_lt _ hy0, Subs.refl _, ?_⟩
   ·rw [← hg, Nat.gcd_comm x y, Nat.gcd_rec y x, Nat.gcd_comm]
   ·exact Subs.refl _
  ·simp at h
   exact absurd h h0
end
end Go.Proofs.YtmpjlkclkhnpfaaGreatDoor.Am
