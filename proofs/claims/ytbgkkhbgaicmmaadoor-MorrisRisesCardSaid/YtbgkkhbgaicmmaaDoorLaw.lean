/- Parts of the proof: Mul2, Rat1, Rat2, DivN, Nat8, Nat9, Nat10, Rat3, RatQ, Rat4, Rat5, Pow1, Text1, Tape1, Float1, Flip1, Flip2, Morris1, Pow2, Float2, Float3, Rise1, Val1, MorM, Mor1, Mor2, AmLaw, MorL. -/
import Derived.Test.YtbgkkhbgaicmmaaDoorPc
set_option linter.unusedVariables false
set_option linter.unusedSimpArgs false
set_option maxRecDepth 100000
namespace Go.Proofs.YtbgkkhbgaicmmaaDoor.Am
section
open Go.RowKit
theorem wval_set : ∀ (ws : List Nat) (j v : Nat), j < ws.length → wval (ws.set j v) + 18446744073709551616 ^ j * ws.getD j 0 = wval ws + 18446744073709551616 ^ j * v
  | [], j, v, h => by simp at h
  | x :: l, 0, v, h => by simp [wval]; omega
  | x :: l, j + 1, v, h => by
    have ih := wval_set l j v (by simpa using h)
    simp only [List.set_cons_succ, wval, Nat.pow_succ, List.getD_cons_succ]
    have e : ∀ z, 18446744073709551616 ^ j * 18446744073709551616 * z = 18446744073709551616 * (18446744073709551616 ^ j * z) := fun z => by
      rw [Nat.mul_right_comm, Nat.mul_comm]
    rw [e, e]
    omega
theorem small_set {ws : List Nat} (h : small ws) (j v : Nat) (hv : v < 18446744073709551616) : small (ws.set j v) := by
  intro x hx
  rcases List.mem_or_eq_of_mem_set hx with hx | rfl
  · exact h x hx
  · exact hv
/-- the words of a row, as an own thing -/
def uW (ws : List Nat) : List V := U ws
theorem uW_length (ws : List Nat) : (uW ws).length = ws.length := by simp [uW, U]
theorem uW_get {ws : List Nat} {j : Nat} (h : j < ws.length) : (uW ws)[j]? = some (.d (.int .u64 (ws.getD j 0 : Nat))) := by
  simp [uW, U, List.getD, h]
theorem uW_set (ws : List Nat) (j v : Nat) : (uW ws).set j (.d (.int .u64 v)) = uW (ws.set j v) := by simp [uW, U, List.map_set]
theorem uW_low (n : Nat) (ws : List Nat) : V.lowl n (uW ws) = true := lowl_U n ws

theorem mul_fin {vn v z1 z2 p b xy o c l2 h2 : Nat} (hs2 : vn + p * o = v + p * l2) (hv : v + p * c = z2 + z1) (htot : xy + o + c = l2 + b * h2) : vn + p * b * h2 = z2 + (z1 + p * xy) := by
  have e2 := congrArg (p * ·) htot
  simp only [Nat.mul_add] at e2
  rw [← Nat.mul_assoc] at e2
  omega
set_option maxHeartbeats 4000000 in
theorem mul_ok (m n : Nat) (hm : size m ≤ 1000000) (hn : size n ≤ 1000000) : Eqn Tryd.prog n_nat_Mul [.d (.agg [natW m]), .d (.agg [natW n])] [] (.d (.agg [natW (m * n)])) [] := by
  refine Eqn.pure r_nat_Mul (plain_d _) ?_
  unfold size at hm hn
  rw [← words_val m, ← words_val n]
  have hsA := words_small m
  have hsB := words_small n
  rw [show natW (wval (words m)) = W (words m) by rw [words_val]; rfl, show natW (wval (words n)) = W (words n) by rw [words_val]; rfl]
  generalize words m = A at *
  generalize words n = B at *
  simp only [c_nat_Mul, W]
  have hlen : ((A.length : Int) + B.length).toNat = A.length + B.length := by omega
  refine G1 hlen ?_; try with_reducible exact tt
  rw [show List.replicate (A.length + B.length) (V.d (.int .u64 0)) = uW (List.replicate (A.length + B.length) 0) by simp [uW, U]]
  refine AW.loopT (α := Nat × List Nat) 4 (fun s => [(25, .d (.int .i64 (s.1 : Int)))]) (fun s => [(3, ⟨55, uW s.2⟩)]) (fun s => s.1 ≤ A.length ∧ s.2.length = A.length + B.length ∧ small s.2 ∧ wval s.2 = wval (A.take s.1) * wval B ∧ ∀ j, s.1 + B.length ≤ j → s.2.getD j 0 = 0) (fun s => A.length - s.1) (0, List.replicate (A.length + B.length) 0) ?_ ?_ ?_ ?_ ?_ ?_
  · simp
  · simp
  · refine ⟨Nat.zero_le _, by simp, fun x hx => by rw [List.eq_of_mem_replicate hx]; omega, by simp [wval_zeros, wval], fun j _ => ?_⟩
    simp [List.getD, List.getElem?_replicate]
    split <;> rfl
  · simp
  · simp [uW_low]
  rintro ⟨i, ws⟩ ⟨hi, hl, hs, hv, hz⟩
  simp only at hi hl hs hv hz
  simp
  by_cases h : i = A.length
  · subst h
    rw [List.take_length] at hv
    refine G0 ?_; try with_reducible exact tt
    refine AW.cond rfl (fun h => ?_) (fun h => ?_)
    · simp at h
    refine AW.exit ?_
    (try (simp -implicitDefEqProofs; try simp (disch := omega) only [w64, wu64]))
    have hcell : uW ws = (ws.map fun x : Nat => D.int .u64 x).map V.d := by simp [uW, U]
    rw [hcell]
    refine AW.freeze 3 1 ⟨55, _⟩ (ws.map fun x : Nat => .int .u64 x) (by rfl) (by rfl) ?_
    simp [← hl, List.take_of_length_le]
    refine G0 ?_; try with_reducible exact tt
    refine CallS.pu (trimmed_ok ws hs (by omega)) (R0 ?_); try with_reducible exact tt
    refine Sub1.of ?_
    rw [hv]
  · have hi' : i < A.length := by omega
    have hp : (i : Int) < A.length := by omega
    refine G1 (fs hi' hp) ?_; try with_reducible exact tt
    refine AW.cond rfl (fun h => ?_) (fun h => ?_)
    · refine G1 (fs hi' hp) ?_; try with_reducible exact tt
      have hwA : A[i] = A.getD i 0 := W_get hi'
      have hx : A[i] < 18446744073709551616 := hsA _ (List.getElem_mem _)
      generalize A[i] = x at hwA hx ⊢
      refine AW.loopT (α := Nat × Nat × List Nat) 4 (fun s => [(33, .d (.int .i64 (s.1 : Int))), (8, .d (.int .u64 (s.2.1 : Int)))]) (fun s => [(3, ⟨55, uW s.2.2⟩)]) (fun s => s.1 ≤ B.length ∧ s.2.1 < 18446744073709551616 ∧ s.2.2.length = A.length + B.length ∧ small s.2.2 ∧ wval s.2.2 + 18446744073709551616 ^ (i + s.1) * s.2.1 = wval (A.take i) * wval B + 18446744073709551616 ^ i * (x * wval (B.take s.1)) ∧ ∀ j, i + B.length ≤ j → s.2.2.getD j 0 = 0) (fun s => B.length - s.1) (0, 0, ws) ?_ ?_ ⟨Nat.zero_le _, by simp, hl, hs, by simp [hv, wval], hz⟩ ?_ ?_ ?_
      · simp
      · simp
      · simp
      · simp [uW_low]
      clear hl hs hv hz
      rintro ⟨k, c, ws'⟩ ⟨hk, hc, hl, hs, hv, hz⟩
      simp only at hk hc hl hs hv hz
      simp
      have hlen' : ((i : Int) + B.length).toNat = i + B.length := by omega
      have ew : IntKind.i64.wrap ((i : Int) + B.length) = ((i + B.length : Nat) : Int) := w64 (by omega) (by omega)
      have eu := uW_length ws'
      have eset := fun j v => uW_set ws' j v
      by_cases hkl : k = B.length
      · subst hkl
        rw [List.take_length] at hv
        refine G0 ?_; try with_reducible exact tt
        refine AW.cond rfl (fun h => ?_) (fun h => ?_)
        · simp at h
        have hg : (uW ws').length = A.length + B.length := by rw [eu]; exact hl
        have e2 : IntKind.i64.wrap ((i : Int) + 1) = (i : Int) + 1 := w64 (by omega) (by omega)
        refine G1 (fs hg (fs eset e2)) ?_; try with_reducible exact tt
        refine ⟨i + 1, ws'.set (i + B.length) c, ⟨hi', by simp [hl], small_set hs _ _ hc, ?_, fun j hj => ?_⟩, by omega, by simp, by rw [hlen']; simp, uW_low _ _⟩
        · have h1 := wval_set ws' (i + B.length) c (by omega)
          rw [hz _ (Nat.le_refl _), Nat.mul_zero, Nat.add_zero] at h1
          rw [h1, hv, wval_take, Nat.add_mul, hwA, Nat.mul_assoc]
        · have h1 := hz j (by omega)
          rw [List.getD] at h1
          rw [List.getElem?_set_ne (by omega)]
          exact h1
      · have hk' : k < B.length := by omega
        have hkp : (k : Int) < B.length := by omega
        refine G1 (fs hk' hkp) ?_; try with_reducible exact tt
        refine AW.cond rfl (fun h => ?_) (fun h => ?_)
        · have hy : B[k] < 18446744073709551616 := hsB _ (List.getElem_mem _)
          have hwB : B[k] = B.getD k 0 := W_get hk'
          have hg : (uW ws').length = A.length + B.length := by rw [eu]; exact hl
          have hik : i + k < ws'.length := by omega
          have hik2 : ((i : Int) + k).toNat = i + k := by omega
          have ewk : IntKind.i64.wrap ((i : Int) + k) = (i : Int) + k := w64 (by omega) (by omega)
          have hgo := uW_get hik
          have ho := hs.getD (i + k)
          have hset := fun v => wval_set ws' (i + k) v hik
          generalize hO : ws'.getD (i + k) 0 = o at hgo ho hset
          have e2 : IntKind.i64.wrap ((k : Int) + 1) = (k : Int) + 1 := w64 (by omega) (by omega)
          refine G1 (fs hk' hkp) ?_; try with_reducible exact tt
          generalize B[k] = y at hy hwB ⊢
          have hmul := mul64_ok x y hx hy
          have l0 : x * y % 18446744073709551616 < 18446744073709551616 := Nat.mod_lt _ (by decide)
          have hxy : x * y ≤ 18446744073709551615 * 18446744073709551615 := Nat.mul_le_mul (by omega) (by omega)
          have hdm := Nat.div_add_mod (x * y) 18446744073709551616
          obtain ⟨hi', hhi⟩ : ∃ q, q = x * y / 18446744073709551616 := ⟨_, rfl⟩
          obtain ⟨lo, hlo⟩ : ∃ q, q = x * y % 18446744073709551616 := ⟨_, rfl⟩
          obtain ⟨xy, hxyd⟩ : ∃ q, q = x * y := ⟨_, rfl⟩
          rw [← hhi, ← hlo] at hmul
          rw [← hlo] at l0
          rw [← hhi, ← hlo, ← hxyd] at hdm
          rw [← hxyd] at hxy
          obtain ⟨l1, k1, hl1, hll1, hk1⟩ : ∃ l1 k1 : Nat, lo + o + 0 = l1 + 18446744073709551616 * k1 ∧ l1 < 18446744073709551616 ∧ k1 ≤ 1 := ⟨(lo + o) % 18446744073709551616, (lo + o) / 18446744073709551616, by omega, by omega, by omega⟩
          obtain ⟨l2, k2, hl2, hll2, hk2⟩ : ∃ l2 k2 : Nat, l1 + c + 0 = l2 + 18446744073709551616 * k2 ∧ l2 < 18446744073709551616 ∧ k2 ≤ 1 := ⟨(l1 + c) % 18446744073709551616, (l1 + c) / 18446744073709551616, by omega, by omega, by omega⟩
          have htot : xy + o + c = l2 + 18446744073709551616 * (hi' + k1 + k2) := by omega
          have hhl : hi' + k1 + k2 < 18446744073709551616 := by omega
          have w1 : IntKind.u64.wrap ((hi' : Int) + k1) = ((hi' + k1 : Nat) : Int) := wu64 (by omega) (by omega)
          have w2 : IntKind.u64.wrap (((hi' + k1 : Nat) : Int) + k2) = ((hi' + k1 + k2 : Nat) : Int) := wu64 (by omega) (by omega)
          clear hhi hlo
          refine CallS.pu (hmul) (R1 (fs hg (fs hgo (fs hik2 ewk))) ?_); try with_reducible exact tt
          generalize hi' + k1 = h1 at *
          generalize h1 + k2 = h2 at *
          refine CallS.pu (add64_ok lo o 0 l1 k1 l0 ho (by omega) hll1 hl1) (R1 w1 ?_); try with_reducible exact tt
          refine CallS.pu (add64_ok l1 c 0 l2 k2 hll1 hc (by omega) hll2 hl2) (R1 (fs w2 (fs hg (fs hik2 (fs ewk (fs eset e2))))) ?_); try with_reducible exact tt
          refine ⟨k + 1, h2, ws'.set (i + k) l2, ⟨hk', hhl, by simpa using hl, small_set hs _ _ hll2, ?_, fun j hj => ?_⟩, by omega, by simp, Subs.refl _, uW_low _ _⟩
          · have hs2 := hset l2
            have e1 : x * wval (B.take (k + 1)) = x * wval (B.take k) + 18446744073709551616 ^ k * xy := by
              rw [wval_take, ← hwB, Nat.mul_add, hxyd]
              congr 1
              rw [← Nat.mul_assoc, Nat.mul_comm x, Nat.mul_assoc]
            rw [e1, Nat.mul_add, ← Nat.mul_assoc (18446744073709551616 ^ i) (18446744073709551616 ^ k) xy, ← Nat.pow_add, ← Nat.add_assoc i k 1, Nat.pow_succ]
            exact mul_fin hs2 hv htot
          · have h1 := hz j hj
            rw [← List.getD_eq_getElem?_getD]
            rw [List.getD] at h1 ⊢
            rw [List.getElem?_set_ne (by omega)]
            exact h1
        · simp [hk'] at h
    · simp [hi'] at h
end
end Go.Proofs.YtbgkkhbgaicmmaaDoor.Am
namespace Go.Proofs.YtbgkkhbgaicmmaaDoor.Am
section
open Go.RowKit
theorem size_one {x : Nat} (h : x < 18446744073709551616) : size x ≤ 1 := by
  rw [size]
  rcases Nat.eq_zero_or_pos x with rfl | h0
  · simp [words, wordsF]
  · rw [words_one h0 h]; simp

theorem make_ok (a : Nat) : Eqn Tryd.prog n_whole_Make [.d (.bool false), .d (.agg [natW a])] [] (.d (.agg [natW a, .bool false])) [] := by
  refine Eqn.pure r_whole_Make (plain_d _) ?_
  simp only [c_whole_Make]
  refine G0 ?_; try with_reducible exact tt

theorem abs_ok (a : Nat) (s : Bool) : Eqn Tryd.prog n_whole_Whole_Abs [.d (.agg [natW a, .bool s])] [] (.d (.agg [natW a])) [] := by
  refine Eqn.pure r_whole_Whole_Abs (plain_d _) ?_
  simp only [c_whole_Whole_Abs]
  refine G0 ?_; try with_reducible exact tt

theorem neg_ok (a : Nat) (s : Bool) : Eqn Tryd.prog n_whole_Whole_Neg [.d (.agg [natW a, .bool s])] [] (.d (.bool s)) [] := by
  refine Eqn.pure r_whole_Whole_Neg (plain_d _) ?_
  simp only [c_whole_Whole_Neg]
  refine G0 ?_; try with_reducible exact tt

theorem wholeOf_ok (n : Nat) (h : n < 9223372036854775808) : Eqn Tryd.prog n_whole_Of [.d (.int .i64 n)] [] (.d (.agg [natW n, .bool false])) [] := by
  refine Eqn.pure r_whole_Of (plain_d _) ?_
  simp only [c_whole_Of]
  have h0 : ¬ (n : Int) < 0 := by omega
  refine G0 ?_; try with_reducible exact tt
  refine AW.cond rfl (fun h => ?_) (fun h => ?_)
  · simp [h0] at h
  have e : IntKind.u64.wrap (n : Int) = n := wu64 (by omega) (by omega)
  refine G1 e ?_; try with_reducible exact tt
  refine CallS.pf 1 1 ⟨55, _⟩ [.int .u64 n] (of_ok [n] (small_one (by omega)) (by simp)) (by first | rfl | (simp; done)) (R0 ?_); try with_reducible exact tt
  refine CallS.pu (make_ok n) (R0 ?_); try with_reducible exact tt

theorem rden_ok (a d : Nat) (s : Bool) (h : size d ≤ 1000000) : Eqn Tryd.prog n_rat_Rat_Den [.d (.agg [natW a, .bool s, natW d])] [] (.d (.agg [natW (d + 1)])) [] := by
  refine Eqn.pure r_rat_Rat_Den (plain_d _) ?_
  simp only [c_rat_Rat_Den]
  refine G0 ?_; try with_reducible exact tt
  refine CallS.pf 2 1 ⟨55, _⟩ [.int .u64 (1 : Nat)] (of_ok [1] (small_one (by omega)) (by simp)) (by first | rfl | (simp; done)) (R0 ?_); try with_reducible exact tt
  refine CallS.pu (add_ok d 1 h (by have := size_one (x := 1) (by omega); omega)) (R0 ?_); try with_reducible exact tt
theorem rwhole_ok (a d : Nat) (s : Bool) : Eqn Tryd.prog n_rat_Rat_Whole [.d (.agg [natW a, .bool s, natW d])] [] (.d (.bool (d == 0))) [] := by
  refine Eqn.pure r_rat_Rat_Whole (plain_d _) ?_
  simp only [c_rat_Rat_Whole]
  refine G0 ?_; try with_reducible exact tt
  refine CallS.pu (zero_ok d) (R0 ?_); try with_reducible exact tt
end
end Go.Proofs.YtbgkkhbgaicmmaaDoor.Am
namespace Go.Proofs.YtbgkkhbgaicmmaaDoor.Am
section
open Go.RowKit
theorem size_pow' {x n m : Nat} (h : x < 2 ^ n) (hm : n ≤ 64 * m) : size x ≤ m := by
  apply words_le (words_top x)
  rw [words_val, show (18446744073709551616 : Nat) = 2 ^ 64 by rfl, ← Nat.pow_mul]
  exact Nat.lt_of_lt_of_le h (Nat.pow_le_pow_right (by omega) hm)
/-- words by a word: the quotient's words, the rest -/
def splitW (y : Nat) : List Nat → List Nat × Nat
  | [] => ([], 0)
  | x :: l => (((splitW y l).2 * 18446744073709551616 + x) / y :: (splitW y l).1, ((splitW y l).2 * 18446744073709551616 + x) % y)
theorem splitW_ok {y : Nat} (h0 : 0 < y) : ∀ {l : List Nat}, small l → wval l = wval (splitW y l).1 * y + (splitW y l).2 ∧ (splitW y l).2 < y ∧ small (splitW y l).1 ∧ (splitW y l).1.length = l.length
  | [], _ => ⟨by simp [splitW, wval], h0, by simp [small, splitW], rfl⟩
  | x :: l, h => by
    have hx := h x (by simp)
    obtain ⟨h1, h2, h3, h4⟩ := splitW_ok h0 (l := l) (fun z hz => h z (by simp [hz]))
    simp only [splitW, wval, List.length_cons, h4]
    generalize splitW y l = s at *
    obtain ⟨Q, r⟩ := s
    simp only at *
    have hd := Nat.div_add_mod (r * 18446744073709551616 + x) y
    have hm := Nat.mod_lt (r * 18446744073709551616 + x) h0
    have hq : (r * 18446744073709551616 + x) / y < 18446744073709551616 := by
      rw [Nat.div_lt_iff_lt_mul h0]
      have : (r + 1) * 18446744073709551616 ≤ y * 18446744073709551616 := Nat.mul_le_mul_right _ h2
      omega
    refine ⟨?_, hm, ?_, trivial⟩
    · rw [Nat.mul_comm y] at hd
      have e : 18446744073709551616 * (wval Q * y + r) = 18446744073709551616 * wval Q * y + r * 18446744073709551616 := by rw [Nat.mul_add, Nat.mul_assoc, Nat.mul_comm r]
      rw [h1, e, Nat.add_mul]
      obtain ⟨z, hz⟩ : ∃ z, z = (r * 18446744073709551616 + x) % y := ⟨_, rfl⟩
      obtain ⟨z2, hz2⟩ : ∃ z, z = (r * 18446744073709551616 + x) / y * y := ⟨_, rfl⟩
      obtain ⟨z3, hz3⟩ : ∃ z, z = 18446744073709551616 * wval Q * y := ⟨_, rfl⟩
      rw [← hz, ← hz2] at hd
      rw [← hz, ← hz2, ← hz3]
      omega
    · intro z hz
      rcases List.mem_cons.1 hz with rfl | hz
      · exact hq
      · exact h3 z hz

theorem splitW_div {y : Nat} (h0 : 0 < y) {l : List Nat} (h : small l) : wval (splitW y l).1 = wval l / y ∧ (splitW y l).2 = wval l % y := by
  obtain ⟨h1, h2, _, _⟩ := splitW_ok h0 h
  rw [h1]
  constructor
  · rw [Nat.mul_comm, Nat.mul_add_div h0, Nat.div_eq_of_lt h2, Nat.add_zero]
  · rw [Nat.mul_comm, Nat.mul_add_mod]; exact (Nat.mod_eq_of_lt h2).symm

def splitC (y : Nat) (ws : List Nat) (k : Nat) : List V := U (List.replicate k 0 ++ (splitW y (ws.drop k)).1)
theorem splitC_len {y : Nat} (h0 : 0 < y) {ws : List Nat} (hs : small ws) {k : Nat} (hk : k ≤ ws.length) : (splitC y ws k).length = ws.length := by
  have := (splitW_ok h0 (l := ws.drop k) (fun x hx => hs x (List.mem_of_mem_drop hx))).2.2.2
  simp [splitC, U, this]; omega

set_option maxHeartbeats 2000000 in
theorem split_ok (ws : List Nat) (y : Nat) (hs : small ws) (hn : ws.length ≤ 1000000) (h0 : 0 < y) (hy : y < 18446744073709551616) : Eqn Tryd.prog n_nat_split [.d (W ws), .d (.int .u64 y)] [] (.tup [.d (W (splitW y ws).1), .d (.int .u64 (splitW y ws).2)]) [] := by
  refine Eqn.pure r_nat_split (plain_tup2 _ _) ?_
  simp only [c_nat_split, W]
  have hlen := (splitW_ok h0 hs).2.2.2
  rw [hlen]
  have hlowC : ∀ k, V.lowl 1 (splitC y ws k) = true := fun k => lowl_U 1 _
  refine G0 ?_; try with_reducible exact tt
  rw [show List.replicate ws.length (V.d (.int .u64 0)) = splitC y ws ws.length by simp [splitC, U, splitW]]
  refine AW.loopT (α := Nat) 1 (fun k => [(8, .d (.int .i64 ((k : Int) - 1))), (7, .d (.int .u64 ((splitW y (ws.drop k)).2 : Nat)))]) (fun k => [(0, ⟨55, splitC y ws k⟩)]) (fun k => k ≤ ws.length) (fun k => k) ws.length ?_ ?_ (Nat.le_refl _) ?_ ?_ ?_
  · simp
  · simp
  · simp [splitW]
  · simp [hlowC]
  rintro k hk
  simp
  cases k with
  | zero =>
    refine G0 ?_; try with_reducible exact tt
    refine AW.cond rfl (fun h => ?_) (fun h => ?_)
    · simp at h
    refine AW.exit ?_
    (try (simp -implicitDefEqProofs; try simp (disch := omega) only [w64, wu64]))
    rw [show splitC y ws 0 = ((splitW y ws).1.map fun x : Nat => D.int .u64 x).map V.d by simp [splitC, U]]
    refine AW.freeze 0 1 ⟨55, _⟩ ((splitW y ws).1.map fun x : Nat => .int .u64 x) (by rfl) (by rfl) ?_
    simp [← hlen, List.take_of_length_le]
    refine G0 ?_; try with_reducible exact tt
  | succ k =>
    have hk' : k < ws.length := hk
    have hdrop : ws.drop k = ws[k] :: ws.drop (k + 1) := List.drop_eq_getElem_cons hk'
    obtain ⟨i1, i2, i3, i4⟩ := splitW_ok h0 (l := ws.drop (k + 1)) (fun x hx => hs x (List.mem_of_mem_drop hx))
    have hl := splitC_len h0 hs hk
    have hset : (splitC y ws (k + 1)).set k (.d (.int .u64 (((splitW y (ws.drop (k + 1))).2 * 18446744073709551616 + ws[k]) / y : Nat))) = splitC y ws k := by
      rw [splitC, splitC, hdrop, splitW, U, U, List.replicate_succ', List.append_assoc, List.map_append, List.map_append, List.set_append_right _ _ (by simp)]
      simp
    have hrest : (splitW y (ws.drop k)).2 = ((splitW y (ws.drop (k + 1))).2 * 18446744073709551616 + ws[k]) % y := by rw [hdrop, splitW]
    have hx : ws[k] < 18446744073709551616 := hs _ (List.getElem_mem _)
    have hdv := div64_ok (splitW y (ws.drop (k + 1))).2 ws[k] y i2 hx hy
    rw [← hrest] at hdv
    generalize (splitW y (ws.drop (k + 1))).2 = r at *
    have e0 : (0 : Int) ≤ (k : Int) + 1 - 1 := by omega
    have e1 : (k : Int) + 1 - 1 = k := by omega
    have e2 : (((k : Int) + 1 - 1)).toNat = k := by omega
    have e3 : IntKind.i64.wrap ((k : Int) - 1) = (k : Int) - 1 := w64 (by omega) (by omega)
    generalize hxk : ws[k] = x at *
    generalize hqd : (r * 18446744073709551616 + x) / y = q at *
    generalize hr'' : (splitW y (ws.drop k)).2 = r' at *
    refine G1 (fs e0 (fs e1 (fs e2 hk'))) ?_; try with_reducible exact tt
    refine AW.cond rfl (fun h => ?_) (fun h => ?_)
    · refine G1 (fs e0 (fs e1 (fs e2 (fs hk' hxk)))) ?_; try with_reducible exact tt
      refine CallS.pu (hdv) (R1 (fs e1 (fs hl (fs hk' (fs hset e3)))) ?_); try with_reducible exact tt
      refine ⟨k, by omega, by omega, ?_⟩
      rw [hr'']
      simp [hlowC]
    · simp at h

/-- a quotient by what is one word, or more than what is divided -/
theorem divmod_ok (a b : Nat) (ha : size a ≤ 1000000) (h0 : 0 < b) (hb : b < 18446744073709551616 ∨ a < b) (hbs : size b ≤ 1000000) : Eqn Tryd.prog n_nat_DivMod [.d (.agg [natW a]), .d (.agg [natW b])] [] (.tup [.d (.agg [natW (a / b)]), .d (.agg [natW (a % b)]), .d (.int .i64 0)]) [] := by
  refine Eqn.pure r_nat_DivMod (plain_tup3 _ _ _) ?_
  simp only [c_nat_DivMod]
  refine G0 ?_; try with_reducible exact tt
  refine CallS.pu (zero_ok b) (R0 ?_); try with_reducible exact tt
  have hz : (b == 0) = false := by simp; omega
  refine AW.cond rfl (fun h => ?_) (fun h => ?_)
  · simp [hz] at h
  refine G0 ?_; try with_reducible exact tt
  refine CallS.pu (cmp_ok a b ha hbs) (R0 ?_); try with_reducible exact tt
  refine AW.cond rfl (fun h => ?_) (fun h => ?_)
  · have hlt : a < b := by simpa [cmpZ_lt] using h
    rw [Nat.div_eq_of_lt hlt, Nat.mod_eq_of_lt hlt]
    refine G0 ?_; try with_reducible exact tt
    refine CallS.pu (of_ok (words a) (words_small a) (by unfold size at ha; omega)) (R0 ?_); try with_reducible exact tt
    rw [words_val]
    exact Sub1.tup (Subs.cons (Sub1.nat0) (Subs.refl _))
  · have hge : ¬ a < b := fun hlt => by simp [cmpZ_lt, hlt] at h
    have hb1 : b < 18446744073709551616 := by omega
    have e' : natW b = .sl 1 [.int .u64 b] := by rw [natW, words_one (by omega) hb1]; rfl
    have hsp := split_ok (words a) b (words_small a) (by unfold size at ha; omega) h0 hb1
    obtain ⟨q1, q2, q3, q4⟩ := splitW_ok h0 (words_small a)
    have hd := splitW_div h0 (words_small a)
    rw [words_val] at hd
    have htr := trimmed_ok (splitW b (words a)).1 q3 (by unfold size at ha; omega)
    rw [hd.1] at htr
    rw [hd.2] at hsp q2
    rw [show W (words a) = natW a from rfl] at hsp
    generalize (splitW b (words a)).1 = qs at *
    refine G1 e' ?_; try with_reducible exact tt
    refine AW.cond rfl (fun h => ?_) (fun h => ?_)
    · refine G1 e' ?_; try with_reducible exact tt
      refine CallS.pu (hsp) (R0 ?_); try with_reducible exact tt
      refine CallS.pu (htr) (R0 ?_); try with_reducible exact tt
      refine CallS.pf 4 1 ⟨55, _⟩ [.int .u64 (a % b : Nat)] (of_ok [a % b] (small_one (by omega)) (by simp)) (by first | rfl | (simp; done)) (R0 ?_); try with_reducible exact tt
      simp [wval]
    · simp [e'] at h
end
end Go.Proofs.YtbgkkhbgaicmmaaDoor.Am
namespace Go.Proofs.YtbgkkhbgaicmmaaDoor.Am
section
/-- so many words of a number -/
def wordsN : Nat → Nat → List Nat
  | 0, _ => []
  | m + 1, x => x % 18446744073709551616 :: wordsN m (x / 18446744073709551616)
theorem wordsN_len : ∀ m x, (wordsN m x).length = m
  | 0, _ => rfl
  | m + 1, x => by simp [wordsN, wordsN_len m]
theorem wordsN_small : ∀ m x, small (wordsN m x)
  | 0, _ => by simp [wordsN, small]
  | m + 1, x => by
    intro y hy
    rw [wordsN, List.mem_cons] at hy
    rcases hy with rfl | hy
    · omega
    · exact wordsN_small m _ y hy
theorem wordsN_val : ∀ m x, x < 18446744073709551616 ^ m → wval (wordsN m x) = x
  | 0, x, h => by simp at h; simp [wordsN, wval, h]
  | m + 1, x, h => by
    rw [wordsN, wval, wordsN_val m _ (by rw [Nat.pow_succ] at h; rw [Nat.div_lt_iff_lt_mul (by decide)]; exact h)]
    omega
theorem wordsN_of : ∀ {l : List Nat}, small l → wordsN l.length (wval l) = l
  | [], _ => rfl
  | x :: l, h => by
    have hx := h x (by simp)
    have hl : small l := fun y hy => h y (by simp [hy])
    rw [List.length_cons, wordsN, wval]
    congr 1
    · omega
    · rw [show (x + 18446744073709551616 * wval l) / 18446744073709551616 = wval l by omega]; exact wordsN_of hl
theorem wordsN_eq {l : List Nat} {m x : Nat} (h : small l) (hl : l.length = m) (hv : wval l = x) : l = wordsN m x := by rw [← hl, ← hv, wordsN_of h]

/-- words written over others -/
def ovr (ws : List Nat) (k : Nat) (l : List Nat) : List Nat := ws.take k ++ (l ++ ws.drop (k + l.length))
theorem ovr_len {ws : List Nat} {k : Nat} {l : List Nat} (h : k + l.length ≤ ws.length) : (ovr ws k l).length = ws.length := by simp [ovr]; omega
theorem ovr_small {ws : List Nat} {k : Nat} {l : List Nat} (h : small ws) (hl : small l) : small (ovr ws k l) := by
  intro x hx
  simp only [ovr, List.mem_append] at hx
  rcases hx with hx | hx | hx
  · exact h x (List.mem_of_mem_take hx)
  · exact hl x hx
  · exact h x (List.mem_of_mem_drop hx)
theorem ovr_nil (ws : List Nat) (k : Nat) : ovr ws k [] = ws := by simp [ovr]
theorem ovr_next {ws : List Nat} {k : Nat} {l : List Nat} (h : k + l.length < ws.length) : (ovr ws k l).getD (k + l.length) 0 = ws.getD (k + l.length) 0 := by
  simp only [ovr, List.getD_eq_getElem?_getD]
  congr 1
  rw [List.getElem?_append_right (by rw [List.length_take]; omega), List.length_take, Nat.min_eq_left (by omega), List.getElem?_append_right (by omega), List.getElem?_drop]
  congr 1; omega
theorem ovr_set {ws : List Nat} {k : Nat} {l : List Nat} (h : k + l.length < ws.length) (v : Nat) : (ovr ws k l).set (k + l.length) v = ovr ws k (l ++ [v]) := by
  have e : ws.drop (k + l.length) = ws.getD (k + l.length) 0 :: ws.drop (k + (l.length + 1)) := by
    rw [List.getD_eq_getElem?_getD, List.getElem?_eq_getElem h, Option.getD_some, ← Nat.add_assoc]
    exact List.drop_eq_getElem_cons h
  simp only [ovr]
  rw [List.set_append_right _ _ (by rw [List.length_take]; omega), List.length_take, Nat.min_eq_left (by omega), show k + l.length - k = l.length by omega, List.set_append_right _ _ (by omega), Nat.sub_self, e]
  simp
theorem ovr_ovr {ws : List Nat} {k : Nat} {l r : List Nat} (h : k + l.length ≤ ws.length) (hl : l.length ≤ r.length) : ovr (ovr ws k l) k r = ovr ws k r := by
  simp only [ovr]
  have h1 : (ws.take k).length = k := by rw [List.length_take]; omega
  rw [List.take_append_of_le_length (by omega), List.take_of_length_le (by omega)]
  congr 2
  rw [List.drop_append, List.drop_eq_nil_of_le (by omega), List.nil_append, h1, List.drop_append, List.drop_eq_nil_of_le (by omega), List.nil_append, List.drop_drop]
  congr 1; omega
theorem ovr_seg {ws : List Nat} {k : Nat} {l : List Nat} (h : k + l.length ≤ ws.length) : ((ovr ws k l).drop k).take l.length = l := by
  have h1 : (ws.take k).length = k := by rw [List.length_take]; omega
  simp only [ovr]
  rw [List.drop_append, List.drop_eq_nil_of_le (by omega), List.nil_append, h1, Nat.sub_self, List.drop_zero, List.take_append_of_le_length (by omega), List.take_of_length_le (by omega)]
theorem segN_get {ws : List Nat} {k n i : Nat} (h : i < n) : ((ws.drop k).take n).getD i 0 = ws.getD (k + i) 0 := by
  simp only [List.getD_eq_getElem?_getD, List.getElem?_take, if_pos h, List.getElem?_drop]
theorem segN_len {ws : List Nat} {k n : Nat} (h : k + n ≤ ws.length) : ((ws.drop k).take n).length = n := by simp; omega
theorem small_drop {ws : List Nat} (h : small ws) (k : Nat) : small (ws.drop k) := fun x hx => h x (List.mem_of_mem_drop hx)
theorem small_snoc {l : List Nat} (h : small l) {v : Nat} (hv : v < 18446744073709551616) : small (l ++ [v]) := by
  intro x hx
  rw [List.mem_append, List.mem_singleton] at hx
  rcases hx with hx | rfl
  · exact h x hx
  · exact hv
theorem wval_snoc (l : List Nat) (v : Nat) : wval (l ++ [v]) = wval l + 18446744073709551616 ^ l.length * v := by
  rw [wval_append]; simp [wval]
theorem small_nilN : small [] := by simp [small]

/-- a round of a product that is taken away -/
theorem take_round {l0 g D0 U0 p bo c x y lo hi l2 k2 nb z : Nat} (hv : l0 + g * D0 = U0 + p * (bo + c)) (hyg : y * g = hi * 18446744073709551616 + lo) (h1 : lo + c = l2 + 18446744073709551616 * k2) (h2 : x + 18446744073709551616 * nb = z + l2 + bo) :
    l0 + p * z + g * (D0 + p * y) = U0 + p * x + p * 18446744073709551616 * (nb + (hi + k2)) := by
  have e1 : p * x + 18446744073709551616 * (p * nb) = p * z + p * l2 + p * bo := by
    have := congrArg (p * ·) h2
    simp only [Nat.mul_add] at this
    rw [← Nat.mul_assoc, Nat.mul_comm p 18446744073709551616, Nat.mul_assoc] at this
    exact this
  have e2 : p * lo + p * c = p * l2 + 18446744073709551616 * (p * k2) := by
    have := congrArg (p * ·) h1
    simp only [Nat.mul_add] at this
    rw [← Nat.mul_assoc p 18446744073709551616, Nat.mul_comm p 18446744073709551616, Nat.mul_assoc 18446744073709551616] at this
    exact this
  have e3 : g * (p * y) = 18446744073709551616 * (p * hi) + p * lo := by
    have := congrArg (p * ·) hyg
    simp only [Nat.mul_add] at this
    rw [← Nat.mul_assoc p hi, Nat.mul_comm (p * hi), ← Nat.mul_assoc p y g, Nat.mul_comm (p * y) g] at this
    exact this
  have e4 : p * 18446744073709551616 * (nb + (hi + k2)) = 18446744073709551616 * (p * nb) + 18446744073709551616 * (p * hi) + 18446744073709551616 * (p * k2) := by
    rw [Nat.mul_comm p, Nat.mul_assoc, Nat.mul_add, Nat.mul_add, Nat.mul_add, Nat.mul_add]; omega
  rw [Nat.mul_add, e3, e4]
  rw [Nat.mul_add] at hv
  omega
theorem wval_ltN {ws : List Nat} {n : Nat} (h : small ws) (hl : ws.length = n) : wval ws < 18446744073709551616 ^ n := by rw [← hl]; exact wval_lt h
theorem take_end {u : List Nat} {n z c b x nb gD wl Un : Nat} {l' : List Nat} (h1 : wval l' = wl + 18446744073709551616 ^ n * z) (hv : wl + gD = Un + 18446744073709551616 ^ n * (b + c)) (hux : wval u = Un + 18446744073709551616 ^ n * x) (hzb : x + 18446744073709551616 * nb = z + c + b) (hnb : nb ≤ 1) (hs : small l') (hl : l'.length = n + 1) (hus : small u) (hul : u.length = n + 1) :
    nb = (if wval u < gD then 1 else 0) ∧ l' = wordsN (n + 1) (wval u + (if wval u < gD then 18446744073709551616 ^ (n + 1) else 0) - gD) := by
  have e1 : wval l' + gD = wval u + 18446744073709551616 ^ (n + 1) * nb := by
    have := congrArg (18446744073709551616 ^ n * ·) hzb
    simp only [Nat.mul_add] at this
    rw [← Nat.mul_assoc, ← Nat.pow_succ] at this
    rw [Nat.mul_add] at hv
    simp only [Nat.succ_eq_add_one] at this
    omega
  have hlt := wval_ltN hs hl
  have hult := wval_ltN hus hul
  generalize 18446744073709551616 ^ (n + 1) = M at *
  have hc : nb = 0 ∨ nb = 1 := by omega
  rcases hc with rfl | rfl
  · rw [if_neg (by omega), if_neg (by omega)]
    exact ⟨rfl, wordsN_eq hs hl (by omega)⟩
  · rw [if_pos (by omega), if_pos (by omega)]
    exact ⟨rfl, wordsN_eq hs hl (by omega)⟩
theorem take_start {u : List Nat} {m gD : Nat} (hus : small u) (hul : u.length = m) (hg : gD ≤ wval u + 18446744073709551616 ^ m) : wval (wordsN m (wval u + (if wval u < gD then 18446744073709551616 ^ m else 0) - gD)) + gD = wval u + 18446744073709551616 ^ m * (if wval u < gD then 1 else 0) := by
  have hult := wval_ltN hus hul
  by_cases h : wval u < gD
  · rw [if_pos h, if_pos h, wordsN_val _ _ (by omega)]; omega
  · rw [if_neg h, if_neg h, wordsN_val _ _ (by omega)]; omega
theorem ovr_get {ws : List Nat} {k : Nat} {l : List Nat} {j : Nat} (h : k + l.length ≤ ws.length) (hj : j < l.length) : (ovr ws k l).getD (k + j) 0 = l.getD j 0 := by
  have := ovr_seg h
  rw [← segN_get (n := l.length) hj, this]
theorem add_round {wr p c wl wd x y z nc : Nat} (hv : wr + p * c = wl + wd) (h : x + y + c = z + 18446744073709551616 * nc) : wr + p * z + p * 18446744073709551616 * nc = wl + p * x + (wd + p * y) := by
  have := congrArg (p * ·) h
  simp only [Nat.mul_add] at this
  rw [← Nat.mul_assoc] at this
  omega
theorem add_end {wr p c wl wd wL x v nv : Nat} (hv : wr + p * c = wl + wd) (hl : wL = wl + p * x) (h : x + c = v + 18446744073709551616 * nv) : wL + wd = wr + p * v + p * 18446744073709551616 * nv := by
  have := congrArg (p * ·) h
  simp only [Nat.mul_add] at this
  rw [← Nat.mul_assoc] at this
  omega
theorem digit_top {d : List Nat} {n : Nat} (_ : n < d.length) : d.getD n 0 * 18446744073709551616 ^ n ≤ wval d := by
  have h1 := wval_take d n
  have h2 : wval d = wval (d.take (n + 1)) + 18446744073709551616 ^ (d.take (n + 1)).length * wval (d.drop (n + 1)) := by rw [← wval_append, List.take_append_drop]
  rw [h2, h1, Nat.mul_comm]
  omega
theorem digit_tops {u : List Nat} {n m : Nat} (hs : small u) (hl : u.length = m + 1) (hm : m = n + 1) : wval u / 18446744073709551616 ^ n = u.getD m 0 * 18446744073709551616 + u.getD n 0 := by
  have h1 := wval_take u n
  have h2 := wval_take u m
  rw [List.take_of_length_le (by omega)] at h2
  have h3 := take_lt hs n
  have hp : 0 < 18446744073709551616 ^ n := Nat.pow_pos (by decide)
  rw [h2, hm, h1, Nat.pow_succ, Nat.mul_assoc, Nat.add_assoc, ← Nat.mul_add, Nat.add_mul_div_left _ _ hp, Nat.div_eq_of_lt h3, Nat.zero_add, Nat.mul_comm 18446744073709551616]
  omega
/-- a round of a long division -/
theorem long_round {U0 W1 Bk D S Q BQ : Nat} (h : U0 = W1 + Bk * S + D * BQ) (hq : BQ = Bk * 18446744073709551616 * Q) : U0 = W1 + Bk * (S % D) + D * (Bk * (S / D + 18446744073709551616 * Q)) := by
  have h1 := Nat.div_add_mod S D
  rw [h, hq]
  have e1 : Bk * S = Bk * (S % D) + D * (Bk * (S / D)) := by
    conv => lhs; rw [← h1]
    rw [Nat.mul_add, Nat.mul_left_comm, Nat.add_comm]
  rw [e1, Nat.mul_add Bk, Nat.mul_add D, Nat.mul_assoc Bk]
  omega
theorem wval_seg {ws : List Nat} (k n : Nat) (h : k + n ≤ ws.length) : wval (ws.take (k + n)) = wval (ws.take k) + 18446744073709551616 ^ k * wval ((ws.drop k).take n) := by
  have e : ws.take (k + n) = ws.take k ++ (ws.drop k).take n := by rw [List.take_add]
  rw [e, wval_append, List.length_take, Nat.min_eq_left (by omega)]
theorem wordsN_low {n x : Nat} (h : x < 18446744073709551616 ^ n) : (wordsN (n + 1) x).take n = wordsN n x := by
  have : ∀ (n x : Nat), (wordsN (n + 1) x).take n = wordsN n x := by
    intro n
    induction n with
    | zero => intro x; simp [wordsN]
    | succ n ih => intro x; rw [wordsN, List.take_succ_cons, ih, wordsN]
  exact this n x
theorem ovr_take {ws : List Nat} {k : Nat} {l : List Nat} (h : k ≤ ws.length) : (ovr ws k l).take k = ws.take k := by
  simp only [ovr]
  rw [List.take_append_of_le_length (by rw [List.length_take]; omega), List.take_take, Nat.min_self]
theorem seg_cons {ws : List Nat} {k m : Nat} (h : k < ws.length) : wval ((ws.drop k).take (m + 1)) = ws.getD k 0 + 18446744073709551616 * wval ((ws.drop (k + 1)).take m) := by
  rw [List.drop_eq_getElem_cons h, List.take_succ_cons, wval, List.getD_eq_getElem?_getD, List.getElem?_eq_getElem h]; rfl
theorem ovr_low {ws : List Nat} {k n x : Nat} (h : k + (n + 1) ≤ ws.length) (hx : x < 18446744073709551616 ^ n) : wval (((ovr ws k (wordsN (n + 1) x)).drop k).take n) = x := by
  have h1 := ovr_seg (ws := ws) (k := k) (l := wordsN (n + 1) x) (by rw [wordsN_len]; exact h)
  rw [wordsN_len] at h1
  have h2 : ((ovr ws k (wordsN (n + 1) x)).drop k).take n = (((ovr ws k (wordsN (n + 1) x)).drop k).take (n + 1)).take n := by rw [List.take_take, Nat.min_eq_left (by omega)]
  rw [h2, h1, wordsN_low hx, wordsN_val _ _ hx]
theorem rep_set {k : Nat} {q : List Nat} (v : Nat) : (List.replicate (k + 1) 0 ++ q).set k v = List.replicate k 0 ++ v :: q := by
  rw [List.replicate_succ', List.append_assoc, List.set_append_right _ _ (by simp)]
  simp
theorem moved_low {Bw : List Nat} {s : Nat} (hb : wval Bw * 2 ^ s < 18446744073709551616 ^ Bw.length) : wval ((movedL s 0 Bw).take Bw.length) = wval Bw * 2 ^ s := by
  have h1 := movedL_val s Bw 0
  have h2 := wval_take (movedL s 0 Bw) Bw.length
  rw [List.take_of_length_le (by rw [movedL_len]; omega), h1, Nat.add_zero] at h2
  rcases Nat.eq_zero_or_pos ((movedL s 0 Bw).getD Bw.length 0) with h | h
  · rw [h, Nat.mul_zero, Nat.add_zero] at h2; exact h2.symm
  · exfalso
    have : 18446744073709551616 ^ Bw.length * 1 ≤ 18446744073709551616 ^ Bw.length * (movedL s 0 Bw).getD Bw.length 0 := Nat.mul_le_mul_left _ h
    omega
end
end Go.Proofs.YtbgkkhbgaicmmaaDoor.Am
namespace Go.Proofs.YtbgkkhbgaicmmaaDoor.Am
section
open Go.RowKit
theorem uW_ren (θ : Nat → Nat) (ws : List Nat) : V.rens θ (uW ws) = uW ws := by
  have h := rens_map_d θ (ws.map fun x : Nat => D.int .u64 x)
  rw [List.map_map] at h
  exact h
theorem uW_plain (ws : List Nat) : plainL (uW ws) := ⟨uW_low 0 ws, fun θ => uW_ren θ ws⟩

theorem prod_parts {y g hi lo : Nat} (hy : y < 18446744073709551616) (hg : g < 18446744073709551616) (h1 : hi = y * g / 18446744073709551616) (h2 : lo = y * g % 18446744073709551616) : y * g = hi * 18446744073709551616 + lo ∧ lo < 18446744073709551616 ∧ hi + 1 < 18446744073709551616 := by
  have hp : y * g ≤ 18446744073709551615 * 18446744073709551615 := Nat.mul_le_mul (by omega) (by omega)
  generalize y * g = p at *
  omega

/-- what is left when so often the divisor is taken away -/
def takeR (ws d : List Nat) (k g : Nat) : List Nat := wordsN (d.length + 1) (wval ((ws.drop k).take (d.length + 1)) + (if wval ((ws.drop k).take (d.length + 1)) < g * wval d then 18446744073709551616 ^ (d.length + 1) else 0) - g * wval d)
set_option maxHeartbeats 4000000 in
theorem take_ok (ws d : List Nat) (k g : Nat) (hs : small ws) (hd : small d) (hk : k + d.length + 1 ≤ ws.length) (hn : ws.length ≤ 1000000) (hg : g < 18446744073709551616) :
    Eqn Tryd.prog n_nat_take [.row 0 k (d.length + 1), .d (W d), .d (.int .u64 g)] [⟨55, uW ws⟩] (.d (.int .i64 (if wval ((ws.drop k).take (d.length + 1)) < g * wval d then 1 else 0))) [⟨55, uW (ovr ws k (takeR ws d k g))⟩] := by
  refine Eqn.obj1 r_nat_take Plain.ok (uW_plain _) ?_
  obtain ⟨u, hu⟩ : ∃ u, u = (ws.drop k).take (d.length + 1) := ⟨_, rfl⟩
  have hul : u.length = d.length + 1 := by rw [hu]; exact segN_len (by omega)
  have hus : small u := by rw [hu]; exact (small_drop hs k).take _
  have hug : ∀ i, i < d.length + 1 → u.getD i 0 = ws.getD (k + i) 0 := fun i hi => by rw [hu]; exact segN_get hi
  rw [takeR, ← hu]
  simp only [c_nat_take, W]
  refine G0 ?_; try with_reducible exact tt
  refine AW.loopT (α := Nat × Nat × Nat × List Nat) 1 (fun s => [(17, .d (.int .i64 (s.1 : Int))), (7, .d (.int .u64 (s.2.1 : Int))), (8, .d (.int .u64 (s.2.2.1 : Int)))]) (fun s => [(0, ⟨55, uW (ovr ws k s.2.2.2)⟩)]) (fun s => s.1 ≤ d.length ∧ s.2.1 < 18446744073709551616 ∧ s.2.2.1 ≤ 1 ∧ s.2.2.2.length = s.1 ∧ small s.2.2.2 ∧ wval s.2.2.2 + g * wval (d.take s.1) = wval (u.take s.1) + 18446744073709551616 ^ s.1 * (s.2.2.1 + s.2.1)) (fun s => d.length - s.1) (0, 0, 0, []) ?_ ?_ ⟨Nat.zero_le _, by simp, by simp, rfl, small_nilN, by simp [wval]⟩ ?_ ?_ ?_
  · simp
  · simp
  · simp
  · simp [ovr_nil, uW_low]
  rintro ⟨i, c, b, l⟩ ⟨hi, hc, hb, hl, hsl, hv⟩
  simp only at hi hc hb hl hsl hv
  simp
  have hol : (uW (ovr ws k l)).length = ws.length := by rw [uW_length, ovr_len (by omega)]
  have hget := uW_get (ws := ovr ws k l) (j := k + i) (by rw [← uW_length, hol]; omega)
  have hnx := ovr_next (ws := ws) (k := k) (l := l) (by omega)
  rw [hl] at hnx
  rw [hnx, ← hug i (by omega)] at hget
  have hx := hus.getD i
  have hset : ∀ v : Nat, (uW (ovr ws k l)).set (k + i) (.d (.int .u64 v)) = uW (ovr ws k (l ++ [v])) := fun v => by rw [uW_set, ← hl, ovr_set (by omega)]
  have hki : ((k : Int) + i).toNat = k + i := by omega
  obtain ⟨x, hxd⟩ : ∃ x, x = u.getD i 0 := ⟨_, rfl⟩
  rw [← hxd] at hget hx
  by_cases hin : i < d.length
  · have hin' : (i : Int) < d.length := by omega
    have hy : d[i] < 18446744073709551616 := hd _ (List.getElem_mem _)
    have hyd : d[i] = d.getD i 0 := W_get hin
    have e2 : IntKind.i64.wrap ((i : Int) + 1) = (i : Int) + 1 := w64 (by omega) (by omega)
    refine G1 (fs hin hin') ?_; try with_reducible exact tt
    refine AW.cond rfl (fun h => ?_) (fun h => ?_)
    · clear h
      refine G1 (fs hin hin') ?_; try with_reducible exact tt
      generalize d[i] = y at hy hyd ⊢
      have hmul := mul64_ok y g hy hg
      obtain ⟨hi', hhi⟩ : ∃ q, q = y * g / 18446744073709551616 := ⟨_, rfl⟩
      obtain ⟨lo, hlo⟩ : ∃ q, q = y * g % 18446744073709551616 := ⟨_, rfl⟩
      rw [← hhi, ← hlo] at hmul
      obtain ⟨hyg, hl0, hh0⟩ := prod_parts hy hg hhi hlo
      clear hhi hlo
      obtain ⟨l2, k2, hl1, hll2, hk2⟩ : ∃ l2 k2 : Nat, lo + c + 0 = l2 + 18446744073709551616 * k2 ∧ l2 < 18446744073709551616 ∧ k2 ≤ 1 := ⟨(lo + c) % 18446744073709551616, (lo + c) / 18446744073709551616, by omega, by omega, by omega⟩
      obtain ⟨z, nb, hzb, hz, hnb⟩ : ∃ z nb : Nat, x + 18446744073709551616 * nb = z + l2 + b ∧ z < 18446744073709551616 ∧ nb ≤ 1 := by
        by_cases h : l2 + b ≤ x
        · exact ⟨x - l2 - b, 0, by omega, by omega, by omega⟩
        · exact ⟨x + 18446744073709551616 - l2 - b, 1, by omega, by omega, by omega⟩
      have w1 : IntKind.u64.wrap ((hi' : Int) + k2) = ((hi' + k2 : Nat) : Int) := wu64 (by omega) (by omega)
      have hround := take_round hv hyg (by omega : lo + c = l2 + 18446744073709551616 * k2) hzb
      have ht : g * wval (d.take (i + 1)) = g * (wval (d.take i) + 18446744073709551616 ^ i * y) := by rw [wval_take, ← hyd]
      have hut : wval (u.take (i + 1)) = wval (u.take i) + 18446744073709551616 ^ i * x := by rw [wval_take, ← hxd]
      have hsn : wval (l ++ [z]) = wval l + 18446744073709551616 ^ i * z := by rw [wval_snoc, hl]
      rw [← hsn, ← ht, ← hut, ← Nat.pow_succ] at hround
      have hhk : hi' + k2 < 18446744073709551616 := by omega
      refine CallS.pu (hmul) (R1 (fs hol (fs hget hki)) ?_); try with_reducible exact tt
      generalize hi' + k2 = hk at *
      refine CallS.pu (add64_ok lo c 0 l2 k2 hl0 hc (by omega) hll2 hl1) (R1 (fs w1 (fs hol (fs hget hki))) ?_); try with_reducible exact tt
      refine CallS.pu (sub64_ok x l2 b z nb hx hll2 hb hz (by omega)) (R1 (fs hol (fs hki (fs hset e2))) ?_); try with_reducible exact tt
      refine ⟨i + 1, hk, nb, l ++ [z], ⟨hin, hhk, hnb, by simp [hl], small_snoc hsl hz, hround⟩, by omega, by simp, ?_⟩
      exact ⟨Subs.refl _, uW_low _ _⟩
    · simp [hin, hin'] at h
  · have h2 : i = d.length := by omega
    subst h2
    rw [List.take_length] at hv
    obtain ⟨z, nb, hzb, hz, hnb⟩ : ∃ z nb : Nat, x + 18446744073709551616 * nb = z + c + b ∧ z < 18446744073709551616 ∧ nb ≤ 1 := by
      by_cases h : c + b ≤ x
      · exact ⟨x - c - b, 0, by omega, by omega, by omega⟩
      · exact ⟨x + 18446744073709551616 - c - b, 1, by omega, by omega, by omega⟩
    refine G0 ?_; try with_reducible exact tt
    refine AW.cond rfl (fun h => ?_) (fun h => ?_)
    · simp at h
    refine AW.exit ?_
    (try (simp -implicitDefEqProofs; try simp (disch := omega) only [w64, wu64]))
    refine G1 (fs hol (fs hget hki)) ?_; try with_reducible exact tt
    refine CallS.pu (sub64_ok x c b z nb hx hc hb hz (by omega)) (R1 (fs hol (fs hki hset)) ?_); try with_reducible exact tt
    have hux : wval u = wval (u.take d.length) + 18446744073709551616 ^ d.length * x := by
      rw [hxd, ← wval_take, List.take_of_length_le (by omega)]
    obtain ⟨hnb', hR⟩ := take_end (n := d.length) (by rw [wval_snoc, hl]) hv hux hzb hnb (small_snoc hsl hz) (by simp [hl]) hus hul
    rw [← hR]
    refine ⟨Sub1.int ?_, Subs.refl _⟩
    rw [hnb']
    split <;> rfl
end
end Go.Proofs.YtbgkkhbgaicmmaaDoor.Am
namespace Go.Proofs.YtbgkkhbgaicmmaaDoor.Am
section
open Go.RowKit
set_option maxHeartbeats 4000000 in
/-- how often the divisor is in a row that is one word longer; the row becomes the rest -/
theorem digit_ok (ws d : List Nat) (k : Nat) (hs : small ws) (hd : small d) (hd1 : 1 ≤ d.length) (hk : k + d.length + 1 ≤ ws.length) (hn : ws.length ≤ 1000000) (htop : d.getD (d.length - 1) 0 ≠ 0) (hU : wval ((ws.drop k).take (d.length + 1)) < wval d * 18446744073709551616) :
    Eqn Tryd.prog n_nat_digit [.row 0 k (d.length + 1), .d (W d)] [⟨55, uW ws⟩] (.d (.int .u64 (wval ((ws.drop k).take (d.length + 1)) / wval d : Nat))) [⟨55, uW (ovr ws k (wordsN (d.length + 1) (wval ((ws.drop k).take (d.length + 1)) % wval d)))⟩] := by
  refine Eqn.obj1 r_nat_digit Plain.ok (uW_plain _) ?_
  have htk := fun g hg => take_ok ws d k g hs hd hk hn hg
  obtain ⟨u, hu⟩ : ∃ u, u = (ws.drop k).take (d.length + 1) := ⟨_, rfl⟩
  have hul : u.length = d.length + 1 := by rw [hu]; exact segN_len (by omega)
  have hus : small u := by rw [hu]; exact (small_drop hs k).take _
  have hug : ∀ i, i < d.length + 1 → u.getD i 0 = ws.getD (k + i) 0 := fun i hi => by rw [hu]; exact segN_get hi
  simp only [takeR, ← hu] at htk hU ⊢
  obtain ⟨n, hdn⟩ : ∃ n, d.length = n + 1 := ⟨d.length - 1, by omega⟩
  have hgn := uW_get (ws := ws) (j := k + d.length) (by omega)
  have hgm := uW_get (ws := ws) (j := k + n) (by omega)
  rw [← hug _ (by omega)] at hgn hgm
  have hwl := uW_length ws
  have hx1 := hus.getD d.length
  have hx0 := hus.getD n
  have hdt : d[n]? = some (d.getD n 0) := by rw [List.getD_eq_getElem?_getD, List.getElem?_eq_getElem (by omega)]; rfl
  have hdt2 : d[n]'(by omega) = d.getD n 0 := W_get (by omega)
  have hdg := hd.getD n
  rw [hdn, Nat.add_sub_cancel] at htop
  have hUx : wval u / 18446744073709551616 ^ n = u.getD d.length 0 * 18446744073709551616 + u.getD n 0 := digit_tops hus (by omega) hdn
  have hDt : d.getD n 0 * 18446744073709551616 ^ n ≤ wval d := digit_top (by omega)
  generalize u.getD d.length 0 = x1 at *
  generalize u.getD n 0 = x0 at *
  generalize hdd : d.getD n 0 = dt at *
  have hD0 : 0 < wval d := Nat.lt_of_lt_of_le (Nat.mul_pos (by omega) (Nat.pow_pos (by decide))) hDt
  have ed : IntKind.i64.wrap ((d.length : Int) - 1) = (n : Int) := by rw [w64 (by omega) (by omega)]; omega
  have hkd : ((k : Int) + d.length).toNat = k + d.length := by omega
  have hnd : (n : Int) < d.length := by omega
  have hnd' : n < d.length := by omega
  obtain ⟨g, hg, hgD, hgc⟩ : ∃ g : Nat, g ≤ 18446744073709551615 ∧ wval u / wval d ≤ g ∧ (if x1 < dt then g = (x1 * 18446744073709551616 + x0) / dt else g = 18446744073709551615) := by
    by_cases h : x1 < dt
    · refine ⟨(x1 * 18446744073709551616 + x0) / dt, ?_, digit_guess (B := 18446744073709551616) (by decide) (Nat.pow_pos (by decide)) hUx hDt (by omega), by rw [if_pos h]⟩
      have : (x1 * 18446744073709551616 + x0) / dt < 18446744073709551616 := by
        rw [Nat.div_lt_iff_lt_mul (by omega)]
        have : (x1 + 1) * 18446744073709551616 ≤ dt * 18446744073709551616 := Nat.mul_le_mul_right _ h
        omega
      omega
    · refine ⟨18446744073709551615, by omega, ?_, by rw [if_neg h]⟩
      have : wval u / wval d < 18446744073709551616 := by rw [Nat.div_lt_iff_lt_mul hD0, Nat.mul_comm]; exact hU
      omega
  simp only [c_nat_digit, W] at htk ⊢
  repeat (first | refine AW.seq ?_ | refine AW.block ?_)
  refine AW.reg mix ?_
  (simp -implicitDefEqProofs; try simp (disch := omega) only [w64, wu64])
  try refine need.of (by first | omega | kernel_rfl) ?_
  repeat (first | refine AW.seq ?_ | refine AW.block ?_)
  refine AW.reg mix ?_
  (simp -implicitDefEqProofs; try simp (disch := omega) only [w64, wu64])
  try refine need.of (by first | omega | kernel_rfl) ?_
  repeat (first | refine AW.seq ?_ | refine AW.block ?_)
  refine AW.reg mix ?_
  (simp -implicitDefEqProofs; try simp (disch := omega) only [w64, wu64])
  try refine need.of (by first | omega | kernel_rfl) ?_
  refine AW.cut 1 [(6, .d (.int .u64 g))] [(0, ⟨55, uW ws⟩)] (by simp) (by simp) ?_ ?_
  · by_cases hlt : x1 < dt
    · rw [if_pos hlt] at hgc
      have hlt' : (x1 : Int) < dt := by omega
      refine G1 (fs hwl (fs hgn (fs hgm (fs ed (fs hkd (fs hnd (fs hnd' (fs hdt (fs hdt2 (fs hlt hlt')))))))))) ?_; try with_reducible exact tt
      refine AW.cond rfl (fun h => ?_) (fun h => ?_)
      · have hdiv := div64_ok x1 x0 dt hlt hx0 hdg
        rw [← hgc] at hdiv
        refine G1 (fs hwl (fs hgn (fs hgm (fs ed (fs hkd (fs hnd (fs hnd' hdt))))))) ?_; try with_reducible exact tt
        simp only [hdt2]
        refine CallS.pu (hdiv) (R0 ?_); try with_reducible exact tt
        exact uW_low _ _
      · simp [hlt, hlt'] at h
    · rw [if_neg hlt] at hgc
      have hlt' : ¬ (x1 : Int) < dt := by omega
      refine G1 (fs hwl (fs hgn (fs hgm (fs ed (fs hkd (fs hnd (fs hnd' (fs hdt (fs hdt2 (fs hlt hlt')))))))))) ?_; try with_reducible exact tt
      refine AW.cond rfl (fun h => ?_) (fun h => ?_)
      · simp [hlt, hlt'] at h
      · refine AW.skip ?_
        subst hgc
        simp [uW_low]
  clear hgc
  have hDn : wval d < 18446744073709551616 ^ d.length := wval_lt hd
  have hgM : g * wval d ≤ wval u + 18446744073709551616 ^ (d.length + 1) := by
    rw [Nat.pow_succ]
    have : g * wval d ≤ 18446744073709551616 * 18446744073709551616 ^ d.length := Nat.mul_le_mul (by omega) (by omega)
    rw [Nat.mul_comm _ 18446744073709551616]
    omega
  obtain ⟨t0, l0, ht0, hl0, hsl0, hv0, hE0⟩ : ∃ (t0 : Nat) (l0 : List Nat), t0 ≤ 1 ∧ l0.length = d.length + 1 ∧ small l0 ∧ wval l0 + g * wval d = wval u + 18446744073709551616 ^ (d.length + 1) * t0 ∧
      Eqn Tryd.prog n_nat_take [.row 0 k (d.length + 1), .d (.sl d.length (d.map fun x : Nat => D.int .u64 x)), .d (.int .u64 g)] [⟨55, uW ws⟩] (.d (.int .i64 t0)) [⟨55, uW (ovr ws k l0)⟩] := by
    refine ⟨if wval u < g * wval d then 1 else 0, _, by split <;> omega, wordsN_len _ _, wordsN_small _ _, take_start hus hul hgM, ?_⟩
    have := htk g (by omega)
    rw [show ((if wval u < g * wval d then 1 else 0 : Nat) : Int) = if wval u < g * wval d then 1 else 0 by split <;> rfl]
    exact this
  clear htk hgM
  simp
  refine G0 ?_; try with_reducible exact tt
  refine CallS.o1 0 (hE0) (hO := uW_plain _) (hO' := (uW_plain _)) (R0 ?_); try with_reducible exact tt
  refine AW.loopT (α := Nat × Nat × List Nat) 1 (fun s => [(7, .d (.int .i64 (s.1 : Nat))), (6, .d (.int .u64 (s.2.1 : Nat)))]) (fun s => [(0, ⟨55, uW (ovr ws k s.2.2)⟩)]) (fun s => s.1 ≤ 1 ∧ s.2.1 ≤ 18446744073709551615 ∧ wval u / wval d ≤ s.2.1 ∧ s.2.2.length = d.length + 1 ∧ small s.2.2 ∧ wval s.2.2 + s.2.1 * wval d = wval u + 18446744073709551616 ^ (d.length + 1) * s.1) (fun s => s.2.1) (t0, g, l0) ?_ ?_ ⟨ht0, hg, hgD, hl0, hsl0, hv0⟩ ?_ ?_ ?_
  · simp
  · simp
  · simp
  · simp [uW_low]
  clear hE0 hl0 hsl0 hv0 ht0 hg hgD
  rintro ⟨t, g, l⟩ ⟨ht, hg, hgD, hl, hsl, hv⟩
  simp only at ht hg hgD hl hsl hv
  simp
  rcases (by omega : t = 0 ∨ t = 1) with rfl | rfl
  · rw [Nat.mul_zero, Nat.add_zero] at hv
    obtain ⟨hq, hr⟩ := digit_done hD0 hgD hv
    have hlw := wordsN_eq hsl hl hr.symm
    refine G0 ?_; try with_reducible exact tt
    refine AW.cond rfl (fun h => ?_) (fun h => ?_)
    · simp at h
    refine AW.exit ?_
    (try (simp -implicitDefEqProofs; try simp (disch := omega) only [w64, wu64]))
    refine G0 ?_; try with_reducible exact tt
    rw [← hlw]
    refine ⟨Sub1.int ?_, Subs.refl _⟩
    rw [← hq]; rfl
  · rw [Nat.mul_one] at hv
    obtain ⟨hg0, hn1, hn2⟩ := digit_next (P := 18446744073709551616 ^ d.length) (by rw [Nat.pow_succ, Nat.mul_comm]) hDn hD0 hg (by rw [← hl]; exact wval_lt hsl) hv
    have ew : IntKind.u64.wrap ((g : Int) - 1) = ((g - 1 : Nat) : Int) := by rw [wu64 (by omega) (by omega)]; omega
    refine G1 ew ?_; try with_reducible exact tt
    refine AW.cond rfl (fun h => ?_) (fun h => ?_)
    rotate_left
    · simp at h
    refine G1 ew ?_; try with_reducible exact tt
    have hwlen : (ovr ws k l).length = ws.length := ovr_len (by omega)
    have hlg : ∀ j, j < d.length + 1 → (ovr ws k l).getD (k + j) 0 = l.getD j 0 := fun j hj => ovr_get (by omega) (by omega)
    have hws1 : small (ovr ws k l) := ovr_small hs hsl
    have hoo : ∀ r, r.length = d.length + 1 → ovr (ovr ws k l) k r = ovr ws k r := fun r hr => ovr_ovr (by omega) (by omega)
    refine AW.loopT (α := Nat × Nat × List Nat) 1 (fun s => [(53, .d (.int .i64 (s.1 : Nat))), (8, .d (.int .u64 (s.2.1 : Nat)))]) (fun s => [(0, ⟨55, uW (ovr (ovr ws k l) k s.2.2)⟩)]) (fun s => s.1 ≤ d.length ∧ s.2.1 ≤ 1 ∧ s.2.2.length = s.1 ∧ small s.2.2 ∧ wval s.2.2 + 18446744073709551616 ^ s.1 * s.2.1 = wval (l.take s.1) + wval (d.take s.1)) (fun s => d.length - s.1) (0, 0, []) ?_ ?_ ⟨Nat.zero_le _, by simp, rfl, small_nilN, by simp [wval]⟩ ?_ ?_ ?_
    · simp
    · simp
    · simp
    · simp [uW_low, ovr_nil]
    rintro ⟨j, c, r⟩ ⟨hj, hc, hr, hsr, hv2⟩
    simp only at hj hc hr hsr hv2
    simp
    have hol : (uW (ovr (ovr ws k l) k r)).length = ws.length := by rw [uW_length, ovr_len (by omega), hwlen]
    have hget := uW_get (ws := ovr (ovr ws k l) k r) (j := k + j) (by rw [← uW_length, hol]; omega)
    have hnx := ovr_next (ws := ovr ws k l) (k := k) (l := r) (by omega)
    rw [hr] at hnx
    rw [hnx, hlg j (by omega)] at hget
    have hx := hsl.getD j
    have hset : ∀ v : Nat, (uW (ovr (ovr ws k l) k r)).set (k + j) (.d (.int .u64 v)) = uW (ovr (ovr ws k l) k (r ++ [v])) := fun v => by rw [uW_set, ← hr, ovr_set (by omega)]
    have hkj : ((k : Int) + j).toNat = k + j := by omega
    obtain ⟨x, hxd⟩ : ∃ x, x = l.getD j 0 := ⟨_, rfl⟩
    rw [← hxd] at hget hx
    by_cases hjn : j < d.length
    · have hjn' : (j : Int) < d.length := by omega
      have hy : d[j] < 18446744073709551616 := hd _ (List.getElem_mem _)
      have hyd : d[j] = d.getD j 0 := W_get hjn
      have e2 : IntKind.i64.wrap ((j : Int) + 1) = ((j + 1 : Nat) : Int) := by rw [w64 (by omega) (by omega)]; omega
      refine G1 (fs hjn hjn') ?_; try with_reducible exact tt
      refine AW.cond rfl (fun h => ?_) (fun h => ?_)
      rotate_left
      · simp [hjn, hjn'] at h
      clear h
      refine G1 (fs hjn (fs hjn' (fs hol (fs hget hkj)))) ?_; try with_reducible exact tt
      generalize d[j] = y at hy hyd ⊢
      obtain ⟨z, nc, hzc, hz, hnc⟩ : ∃ z nc : Nat, x + y + c = z + 18446744073709551616 * nc ∧ z < 18446744073709551616 ∧ nc ≤ 1 := ⟨(x + y + c) % 18446744073709551616, (x + y + c) / 18446744073709551616, by omega, by omega, by omega⟩
      have hround := add_round hv2 hzc
      rw [show wval r + 18446744073709551616 ^ j * z = wval (r ++ [z]) by rw [wval_snoc, hr], show wval (l.take j) + 18446744073709551616 ^ j * x = wval (l.take (j + 1)) by rw [wval_take, ← hxd], show wval (d.take j) + 18446744073709551616 ^ j * y = wval (d.take (j + 1)) by rw [wval_take, ← hyd], ← Nat.pow_succ] at hround
      refine CallS.pu (add64_ok x y c z nc hx hy hc hz hzc) (R1 (fs hol (fs hkj (fs hset e2))) ?_); try with_reducible exact tt
      exact ⟨j + 1, nc, r ++ [z], ⟨hjn, hnc, by simp [hr], small_snoc hsr hz, hround⟩, by omega, by simp, Subs.refl _, uW_low _ _⟩
    · have h2 : j = d.length := by omega
      subst h2
      rw [List.take_length] at hv2
      have hlx : wval l = wval (l.take d.length) + 18446744073709551616 ^ d.length * x := by rw [hxd, ← wval_take, List.take_of_length_le (by omega)]
      obtain ⟨v, nv, hvc, hvl, hnv⟩ : ∃ v nv : Nat, x + c = v + 18446744073709551616 * nv ∧ v < 18446744073709551616 ∧ nv ≤ 1 := ⟨(x + c) % 18446744073709551616, (x + c) / 18446744073709551616, by omega, by omega, by omega⟩
      have wv : IntKind.u64.wrap ((x : Int) + c) = (v : Int) := by rw [IntKind.wrap_u64]; omega
      have hrv : (r ++ [v]).length = d.length + 1 := by simp [hr]
      have hsum := add_end (p := 18446744073709551616 ^ d.length) (wr := wval r) (c := c) (x := x) hv2 hlx hvc
      rw [show wval r + 18446744073709551616 ^ d.length * v = wval (r ++ [v]) by rw [wval_snoc, hr], ← Nat.pow_succ] at hsum
      have hrlt := wval_lt (small_snoc hsr hvl)
      rw [hrv] at hrlt
      replace hset := hset v
      rw [hoo _ hrv] at hset
      have hget2 := uW_get (ws := ovr ws k (r ++ [v])) (j := k + d.length) (by rw [ovr_len (by omega)]; omega)
      rw [ovr_get (by omega) (by omega), show (r ++ [v]).getD d.length 0 = v by rw [← hr]; simp] at hget2
      refine G0 ?_; try with_reducible exact tt
      refine AW.cond rfl (fun h => ?_) (fun h => ?_)
      · simp at h
      refine AW.exit ?_
      (try (simp -implicitDefEqProofs; try simp (disch := omega) only [w64, wu64]))
      have hol2 : (uW (ovr ws k (r ++ [v]))).length = ws.length := by rw [uW_length, ovr_len (by omega)]
      have hsr2 := small_snoc hsr hvl
      generalize hr2 : r ++ [v] = r2 at *
      have hrw : wval r < 18446744073709551616 ^ d.length := by rw [← hr]; exact wval_lt hsr
      have hrw2 : wval r2 = wval r + 18446744073709551616 ^ d.length * v := by rw [← hr2, wval_snoc, hr]
      by_cases hv0 : v = 0
      · subst hv0
        have hnv1 : nv = 1 := by
          rcases (by omega : nv = 0 ∨ nv = 1) with rfl | h
          · exfalso
            rw [Nat.mul_zero, Nat.add_zero] at hsum
            rw [Nat.mul_zero, Nat.add_zero] at hrw2
            have := (hn2 (by omega)).2
            omega
          · exact h
        subst hnv1
        rw [Nat.mul_one] at hsum
        obtain ⟨k1, k2, k3, -⟩ := hn1 (by omega)
        simp at hset hget2 wv
        refine G1 (fs hol (fs hget (fs hkj (fs wv (fs hset (fs hget2 hol2)))))) ?_; try with_reducible exact tt
        refine AW.cond rfl (fun h => ?_) (fun h => ?_)
        · simp at h
        repeat (first | refine AW.seq ?_ | refine AW.block ?_ | (refine AW.reg mix ?_; simp -implicitDefEqProofs; try simp (disch := omega) only [w64, wu64]) | (refine need.of (by first | omega | kernel_rfl) ?_) | (refine AW.fin ?_; try simp -implicitDefEqProofs))
        (try (simp -implicitDefEqProofs; try simp (disch := omega) only [w64, wu64]))
        repeat (first | refine AW.seq ?_ | refine AW.block ?_ | (refine AW.reg mix ?_; simp -implicitDefEqProofs; try simp (disch := omega) only [w64, wu64]) | (refine need.of (by first | omega | kernel_rfl) ?_) | (refine AW.fin ?_; try simp -implicitDefEqProofs))
        refine ⟨0, g - 1, r2, ⟨by omega, by omega, by omega, hrv, hsr2, ?_⟩, by omega, by simp, ?_⟩
        · rw [Nat.mul_zero, Nat.add_zero, ← k1]; omega
        · exact ⟨Subs.refl _, uW_low _ _⟩
      · have hnv0 : nv = 0 := by omega
        subst hnv0
        rw [Nat.mul_zero, Nat.add_zero] at hsum
        obtain ⟨k1, k2⟩ := hn2 (by omega)
        refine G1 (fs hol (fs hget (fs hkj (fs wv (fs hset (fs hget2 (fs hol2 hv0))))))) ?_; try with_reducible exact tt
        refine AW.cond rfl (fun h => ?_) (fun h => ?_)
        rotate_left
        · simp [hv0] at h
        repeat (first | refine AW.seq ?_ | refine AW.block ?_ | (refine AW.reg mix ?_; simp -implicitDefEqProofs; try simp (disch := omega) only [w64, wu64]) | (refine need.of (by first | omega | kernel_rfl) ?_) | (refine AW.fin ?_; try simp -implicitDefEqProofs))
        (try (simp -implicitDefEqProofs; try simp (disch := omega) only [w64, wu64]))
        repeat (first | refine AW.seq ?_ | refine AW.block ?_ | (refine AW.reg mix ?_; simp -implicitDefEqProofs; try simp (disch := omega) only [w64, wu64]) | (refine need.of (by first | omega | kernel_rfl) ?_) | (refine AW.fin ?_; try simp -implicitDefEqProofs))
        refine ⟨1, g - 1, r2, ⟨by omega, by omega, ?_, hrv, hsr2, ?_⟩, by omega, by simp, ?_⟩
        · exact Nat.div_le_of_le_mul (by rw [Nat.mul_comm]; omega)
        · omega
        · exact ⟨Subs.refl _, uW_low _ _⟩
end
end Go.Proofs.YtbgkkhbgaicmmaaDoor.Am
namespace Go.Proofs.YtbgkkhbgaicmmaaDoor.Am
section
open Go.RowKit
set_option maxHeartbeats 1000000 in
theorem moved_new (A : List Nat) (k : Nat) (hk : k < 64) (hs : small A) (hn : A.length ≤ 1000000) : Eqn Tryd.prog n_nat_moved [.d (W A), .d (.int .i64 k)] [] (.own 0 1 (A.length + 1)) [⟨55, uW (movedL k 0 A)⟩] := by
  refine Eqn.gen [0] r_nat_moved (by simp) (by simp) (by rfl) (by decide) (by simp) (by simp [uW_low]) ?_
  simp only [c_nat_moved, W]
  refine G0 ?_; try with_reducible exact tt
  rw [show List.replicate (A.length + 1) (V.d (.int .u64 0)) = cellM k A 0 by rw [cellM, rowM_zero]; simp [U]]
  have hlow : ∀ i, V.lowl 1 (cellM k A i) = true := fun i => lowl_U 1 _
  refine AW.loopT (α := Nat) 1 (fun i => [(14, .d (.int .i64 (i : Int)))]) (fun i => [(0, ⟨55, cellM k A i⟩)]) (fun i => i ≤ A.length) (fun i => A.length - i) 0 ?_ ?_ (Nat.zero_le _) ?_ ?_ ?_
  · simp
  · simp
  · simp
  · simp [hlow]
  rintro i hi
  simp
  by_cases h : i = A.length
  · subst h
    refine G0 ?_; try with_reducible exact tt
    refine AW.cond rfl (fun h => ?_) (fun h => ?_)
    · simp at h
    refine AW.exit ?_
    (try (simp -implicitDefEqProofs; try simp (disch := omega) only [w64, wu64]))
    rw [cellM, rowM_end]
    repeat (first | refine AW.seq ?_ | refine AW.block ?_ | (refine AW.reg mix ?_; simp -implicitDefEqProofs [uW]; try simp (disch := omega) only [w64, wu64]) | (refine need.of (by first | omega | kernel_rfl) ?_) | (refine AW.fin ?_; try simp -implicitDefEqProofs [uW]))
    rw [show U (movedL k 0 A) = uW (movedL k 0 A) from rfl, uW_ren]
    exact Subs.refl _
  · have hi' : i < A.length := by omega
    have hp : (i : Int) < A.length := by omega
    obtain ⟨c, y, u, hl, hq, hor, hw, hd, hset⟩ : ∃ c z u : Nat, (cellM k A i).length = A.length + 1 ∧ (cellM k A i)[i]? = some (.d (.int .u64 c)) ∧ bits BinOp.or IntKind.u64 (c : Int) (IntKind.u64.wrap ((A[i] : Int) * 2 ^ k)) = (z : Int) ∧
        True ∧ (A[i] : Int) / 2 ^ (64 - k) = (u : Int) ∧ ((cellM k A i).set i (.d (.int .u64 z))).set (i + 1) (.d (.int .u64 u)) = cellM k A (i + 1) := by
      have hl := rowM_length k A i hi
      have hc := movedC_lt (k := k) (l := A.take i) (c := 0) (hs.take i) (Nat.two_pow_pos k)
      have hset := rowM_set k A i hi'
      rw [← W_get hi'] at hset
      refine ⟨movedC k 0 (A.take i), A[i] * 2 ^ k % 18446744073709551616 + movedC k 0 (A.take i), A[i] * 2 ^ k / 18446744073709551616, by simp [cellM, U, hl], ?_, ?_, trivial, ?_, ?_⟩
      · have := rowM_get k A i hi'
        rw [List.getD, List.getElem?_eq_getElem (by omega)] at this
        rw [cellM, U, List.getElem?_map, List.getElem?_eq_getElem (by omega)]
        simp at this
        simp [this]
      · rw [show IntKind.u64.wrap ((A[i] : Int) * 2 ^ k) = ((A[i] * 2 ^ k % 18446744073709551616 : Nat) : Int) by rw [IntKind.wrap_u64, Int.natCast_emod, Int.natCast_mul, Int.natCast_pow]; rfl]
        rw [bits_or_u64_nat _ _ (Nat.lt_of_lt_of_le hc (by rw [show (18446744073709551616 : Nat) = 2 ^ 64 by rfl]; exact Nat.pow_le_pow_right (by decide) (by omega))) (Nat.mod_lt _ (by decide)), or_moved hk hc]
      · rw [moved_div (by omega), Int.natCast_ediv, Int.natCast_pow]; rfl
      · rw [cellM, cellM, ← hset, U, U, List.map_set, List.map_set]
    have hn : ((64 : Int) - k).toNat = 64 - k := by omega
    have e1 : IntKind.i64.wrap ((i : Int) + 1) = (i : Int) + 1 := w64 (by omega) (by omega)
    have e2 : IntKind.i64.wrap ((64 : Int) - k) = (64 : Int) - k := w64 (by omega) (by omega)
    generalize cellM k A i = cm at hl hq hset
    refine G1 (fs hi' hp) ?_; try with_reducible exact tt
    refine AW.cond rfl (fun h => ?_) (fun h => ?_)
    · clear h
      refine G1 (fs hi' (fs hp (fs hl (fs hq (fs hor (fs e1 (fs e2 (fs hn (fs hd hset))))))))) ?_; try with_reducible exact tt
      exact ⟨i + 1, by omega, by omega, by simp [wk], by simp [wkH, hlow]⟩
    · simp at h

theorem frzs_uW (n s : Nat) (ds : List D) (ws : List Nat) : V.frzs n s ds (uW ws) = uW ws := by
  rw [frzs_map, uW, U, List.map_map]; rfl
theorem uW_d (ws : List Nat) : uW ws = (ws.map fun x : Nat => D.int .u64 x).map V.d := by rw [List.map_map]; rfl

set_option maxHeartbeats 4000000 in
theorem long_ok (a b : Nat) (hb : 18446744073709551616 ≤ b) (hab : b ≤ a) (ha : size a ≤ 900000) : Eqn Tryd.prog n_nat_long [.d (.agg [natW a]), .d (.agg [natW b])] [] (.tup [.d (.agg [natW (a / b)]), .d (.agg [natW (a % b)]), .d (.int .i64 0)]) [] := by
  refine Eqn.pure r_nat_long Plain.ok ?_
  have hba := size_le hab
  unfold size at ha hba
  have hsA := words_small a
  have hsB := words_small b
  have htB := words_top b
  have hvA := words_val a
  have hvB := words_val b
  have hB2 : 2 ≤ (words b).length := by
    rcases Nat.lt_or_ge (words b).length 2 with h | h
    · exfalso
      have := wval_lt hsB
      rw [hvB] at this
      have h2 : 18446744073709551616 ^ (words b).length ≤ 18446744073709551616 ^ 1 := Nat.pow_le_pow_right (by decide) (by omega)
      omega
    · exact h
  simp only [c_nat_long, natW, W]
  generalize words a = A at *
  generalize words b = Bw at *
  obtain ⟨n, hn⟩ : ∃ n, Bw.length = n + 1 := ⟨Bw.length - 1, by omega⟩
  have htop := htB n hn
  have htl := hsB.getD n
  have hget : Bw[n]'(by omega) = Bw.getD n 0 := W_get (by omega)
  have hlead := lead64_ok (Bw.getD n 0) htl
  have e1 : IntKind.i64.wrap ((Bw.length : Int) - 1) = (n : Int) := by rw [w64 (by omega) (by omega)]; omega
  have hnB : n < Bw.length := by omega
  have hnB' : (n : Int) < Bw.length := by omega
  generalize Bw.getD n 0 = top at *
  obtain ⟨s, hs⟩ : ∃ s, s = 64 - bitsN top := ⟨_, rfl⟩
  rw [← hs] at hlead
  have hs64 : s < 64 := by have := (bitsN_pos (n := top) (by omega)).2; omega
  have hmB := moved_ok Bw s hs64 hsB (by omega)
  have hmA := moved_new A s hs64 hsA (by omega)
  simp only [W, movedL_len] at hmB
  refine G1 (fs e1 (fs hnB (fs hnB' hget))) ?_; try with_reducible exact tt
  refine CallS.pu (hlead) (R1 (fs e1 (fs hnB (fs hnB' hget))) ?_); try with_reducible exact tt
  refine CallS.pu (hmB) (R1 (fs e1 (fs hnB (fs hnB' hget))) ?_); try with_reducible exact tt
  have hlm : (A.length : Int) + 1 - Bw.length = ((A.length - n : Nat) : Int) := by omega
  have hlm2 : IntKind.i64.wrap ((A.length : Int) + 1 - Bw.length) = ((A.length - n : Nat) : Int) := by rw [w64 (by omega) (by omega), hlm]
  have hlm3 : IntKind.i64.wrap (((A.length - n : Nat) : Int) - 1) = ((A.length - n : Nat) : Int) - 1 := w64 (by omega) (by omega)
  refine CallS.nX (hmA) (hO' := (uW_plain _)) (R1 (fs e1 (fs hnB (fs hnB' (fs hget (fs hlm2 hlm3))))) ?_); try with_reducible exact tt
  have hnA : n + 1 ≤ A.length := by omega
  have hbn : 18446744073709551616 ^ n ≤ wval Bw := by
    have h1 := digit_top (d := Bw) (n := n) hnB
    rw [W_get hnB] at hget
    rw [hget] at h1
    have : 1 * 18446744073709551616 ^ n ≤ top * 18446744073709551616 ^ n := Nat.mul_le_mul_right _ (by omega)
    omega
  have hD2 : wval Bw * 2 ^ s < 18446744073709551616 ^ Bw.length := by
    have h1 := wval_take Bw n
    rw [List.take_of_length_le (by omega)] at h1
    rw [W_get hnB] at hget
    rw [hget] at h1
    have h2 := take_lt hsB n
    have h3 : top < 2 ^ bitsN top := lt_bitsN top
    have h4 : wval Bw < 2 ^ bitsN top * 18446744073709551616 ^ n := by
      have : (top + 1) * 18446744073709551616 ^ n ≤ 2 ^ bitsN top * 18446744073709551616 ^ n := Nat.mul_le_mul_right _ h3
      rw [Nat.add_mul, Nat.one_mul, Nat.mul_comm top] at this
      omega
    have h5 : wval Bw * 2 ^ s < 2 ^ bitsN top * 18446744073709551616 ^ n * 2 ^ s := Nat.mul_lt_mul_of_pos_right h4 (Nat.two_pow_pos s)
    have h6 : 2 ^ bitsN top * 18446744073709551616 ^ n * 2 ^ s = 18446744073709551616 ^ Bw.length := by
      have hb64 : bitsN top ≤ 64 := bitsN_le htl
      rw [Nat.mul_right_comm, ← Nat.pow_add, show bitsN top + s = 64 by omega, hn, Nat.pow_succ, Nat.mul_comm]
      rfl
    omega
  have hDv := moved_low hD2
  have hsd : small ((movedL s 0 Bw).take Bw.length) := (movedL_small hs64 hsB (Nat.two_pow_pos s)).take _
  have hdl : ((movedL s 0 Bw).take Bw.length).length = n + 1 := by rw [List.length_take, movedL_len]; omega
  have hU0 := movedL_val s A 0
  have hsU : small (movedL s 0 A) := movedL_small hs64 hsA (Nat.two_pow_pos s)
  have hlU := movedL_len s A 0
  rw [Nat.add_zero] at hU0
  have hp2 := Nat.two_pow_pos s
  have hD0 : 18446744073709551616 ^ n * 2 ^ s ≤ wval Bw * 2 ^ s := Nat.mul_le_mul_right _ hbn
  have hDpos : 0 < wval Bw * 2 ^ s := Nat.lt_of_lt_of_le (Nat.mul_pos (Nat.pow_pos (by decide)) hp2) hD0
  simp only [← List.map_take]
  generalize hdd : (movedL s 0 Bw).take Bw.length = d at *
  generalize hUU : movedL s 0 A = u0 at *
  have hdtop : d.getD (d.length - 1) 0 ≠ 0 := by
    intro h0
    have h1 := wval_take d n
    have he : d.take (n + 1) = d := List.take_of_length_le (by omega)
    rw [he] at h1
    rw [hdl, Nat.add_sub_cancel] at h0
    rw [h0, Nat.mul_zero, Nat.add_zero] at h1
    have h2 := take_lt hsd n
    have h3 : 18446744073709551616 ^ n * 1 ≤ 18446744073709551616 ^ n * 2 ^ s := Nat.mul_le_mul_left _ hp2
    omega
  generalize hm : A.length - n = m at *
  have hstart : wval ((u0.drop m).take (n + 1)) < wval d := by
    have h1 := wval_seg (ws := u0) m (n + 1) (by omega)
    rw [List.take_of_length_le (by omega), hU0] at h1
    have h2 := wval_lt hsA
    have h3 : wval A * 2 ^ s < 18446744073709551616 ^ A.length * 2 ^ s := Nat.mul_lt_mul_of_pos_right h2 hp2
    rw [hDv]
    refine Nat.lt_of_lt_of_le ?_ hD0
    have h4 : 18446744073709551616 ^ A.length = 18446744073709551616 ^ m * 18446744073709551616 ^ n := by rw [← Nat.pow_add]; congr 1; omega
    rw [h4, Nat.mul_assoc] at h3
    have h5 : 18446744073709551616 ^ m * wval ((u0.drop m).take (n + 1)) < 18446744073709551616 ^ m * (18446744073709551616 ^ n * 2 ^ s) := by omega
    exact Nat.lt_of_mul_lt_mul_left h5
  have hdlt : wval d < 18446744073709551616 ^ (n + 1) := by rw [← hdl]; exact wval_lt hsd
  have htkall : u0.take (m + (n + 1)) = u0 := List.take_of_length_le (by omega)
  have hdB : d.length = Bw.length := by omega
  rw [show List.replicate m (V.d (.int .u64 0)) = uW (List.replicate m 0 ++ []) by simp [uW, U]]
  refine AW.loopT (α := Nat × List Nat × List Nat) 6 (fun s => [(12, .d (.int .i64 ((s.1 : Int) - 1)))]) (fun s => [(4, ⟨55, uW s.2.1⟩), (5, ⟨55, uW (List.replicate s.1 0 ++ s.2.2)⟩)]) (fun s => s.1 ≤ m ∧ s.2.1.length = A.length + 1 ∧ small s.2.1 ∧ s.2.2.length = m - s.1 ∧ small s.2.2 ∧ wval u0 = wval (s.2.1.take (s.1 + (n + 1))) + wval d * (18446744073709551616 ^ s.1 * wval s.2.2) ∧ wval ((s.2.1.drop s.1).take (n + 1)) < wval d) (fun s => s.1) (m, u0, []) ?_ ?_ ⟨Nat.le_refl _, hlU, hsU, by simp, small_nilN, by rw [htkall]; simp [wval], hstart⟩ ?_ ?_ ?_
  · simp
  · simp
  · simp
  · simp [uW_low]
  clear hstart hsU hlU
  rintro ⟨kk, ws, q⟩ ⟨hkm, hwl, hws, hql, hsq, hv, hlt⟩
  simp only at hkm hwl hws hql hsq hv hlt
  simp
  cases kk with
  | zero =>
    refine G0 ?_; try with_reducible exact tt
    refine AW.cond rfl (fun h => ?_) (fun h => ?_)
    · simp at h
    refine AW.exit ?_
    (try (simp -implicitDefEqProofs; try simp (disch := omega) only [w64, wu64]))
    rw [Nat.zero_add, Nat.pow_zero, Nat.one_mul] at hv
    rw [List.drop_zero] at hlt
    rw [Nat.sub_zero] at hql
    have hdp : 0 < wval d := by omega
    have hqv : wval q = wval u0 / wval d := by rw [hv, Nat.add_mul_div_left _ _ hdp, Nat.div_eq_of_lt hlt, Nat.zero_add]
    have hrv : wval (ws.take (n + 1)) = wval u0 % wval d := by rw [hv, Nat.add_mul_mod_self_left, Nat.mod_eq_of_lt hlt]
    obtain ⟨k1, k2⟩ := shifted_div (n := wval A) (y := wval Bw) (s := s)
    rw [hU0, hDv] at hqv hrv
    rw [k1] at hqv
    have ht1 := trimmed_ok q hsq (by omega)
    have ht2 := trimmed_ok (ws.take (n + 1)) (hws.take _) (by rw [List.length_take]; omega)
    have hl2 : (ws.take (n + 1)).length = n + 1 := by rw [List.length_take]; omega
    have hsz : size (wval (ws.take (n + 1))) ≤ 1000000 := Nat.le_trans (words_le (words_top _) (m := n + 1) (by rw [words_val]; have := wval_lt (hws.take (n + 1)); rw [hl2] at this; exact this)) (by omega)
    have ht3 := shr_ok (wval (ws.take (n + 1))) s hsz (by omega)
    rw [hrv, k2, ← hrv] at ht3
    rw [hqv] at ht1
    simp only [natW, W, hql, hl2] at ht1 ht2 ht3
    refine AW.freeze 4 1 ⟨55, uW ws⟩ (ws.map fun x : Nat => D.int .u64 x) (by rfl) (uW_d ws) ?_
    simp [frzs_uW]
    refine AW.freeze 5 1 ⟨55, uW q⟩ (q.map fun x : Nat => D.int .u64 x) (by rfl) (uW_d q) ?_
    have hqt : q.take m = q := List.take_of_length_le (by omega)
    have hwt : ws.take (A.length + 1) = ws := List.take_of_length_le (by omega)
    have hnAl : (Bw.length : Int) ≤ (A.length : Int) + 1 := by omega
    simp [frzs_uW, ← List.map_take, hqt, hwt]
    refine G1 hnAl ?_; try with_reducible exact tt
    refine CallS.pu (ht1) (R1 hnAl ?_); try with_reducible exact tt
    rw [← List.map_take, hn]
    refine CallS.pu (ht2) (R0 ?_); try with_reducible exact tt
    refine CallS.pu (ht3) (R0 ?_); try with_reducible exact tt
    rw [hvA, hvB]
    exact Sub1.refl _
  | succ k =>
    have hg0 : (0 : Int) ≤ k := by omega
    refine G1 hg0 ?_; try with_reducible exact tt
    refine AW.cond rfl (fun h => ?_) (fun h => ?_)
    rotate_left
    · simp at h
    have w1 : IntKind.i64.wrap ((k : Int) + Bw.length) = (k : Int) + Bw.length := w64 (by omega) (by omega)
    have w2 : IntKind.i64.wrap ((k : Int) + Bw.length + 1) = (k : Int) + Bw.length + 1 := w64 (by omega) (by omega)
    have w3 : ((k : Int) + Bw.length + 1).toNat - k = Bw.length + 1 := by omega
    have w4 : IntKind.i64.wrap ((k : Int) - 1) = (k : Int) - 1 := w64 (by omega) (by omega)
    have hc1 : (k : Int) ≤ (k : Int) + Bw.length + 1 := by omega
    have hc2 : (k : Int) + Bw.length + 1 ≤ (A.length : Int) + 1 := by omega
    have hseg := seg_cons (ws := ws) (k := k) (m := n + 1) (by omega)
    have hxk := hws.getD k
    have hS : wval ((ws.drop k).take (d.length + 1)) < wval d * 18446744073709551616 := by
      rw [hdl, hseg]; omega
    have hdig := digit_ok ws d k hws hsd (by omega) (by omega) (by omega) hdtop hS
    simp only [W] at hdig
    rw [hdB] at hdig hS
    obtain ⟨S, hSd⟩ : ∃ S, S = wval ((ws.drop k).take (Bw.length + 1)) := ⟨_, rfl⟩
    have hvs := wval_seg (ws := ws) k (Bw.length + 1) (by omega)
    rw [← hSd] at hdig hS hvs
    rw [show k + 1 + (n + 1) = k + (Bw.length + 1) by omega] at hv
    have hround := long_round (Bk := 18446744073709551616 ^ k) (S := S) (Q := wval q) (D := wval d) (W1 := wval (ws.take k)) (U0 := wval u0) (BQ := 18446744073709551616 ^ (k + 1) * wval q) (by rw [hv, ← hvs]) (by rw [Nat.pow_succ])
    have hdp : 0 < wval d := by omega
    have hmodl : S % wval d < wval d := Nat.mod_lt _ hdp
    have hlow := ovr_low (ws := ws) (k := k) (n := Bw.length) (x := S % wval d) (by omega) (by rw [hn]; exact Nat.lt_trans hmodl hdlt)
    have hwn := wordsN_len (Bw.length + 1) (S % wval d)
    have hwlen : (ovr ws k (wordsN (Bw.length + 1) (S % wval d))).length = ws.length := ovr_len (by omega)
    have hsm := ovr_small (k := k) hws (wordsN_small (Bw.length + 1) (S % wval d))
    have hseg2 := wval_seg (ws := ovr ws k (wordsN (Bw.length + 1) (S % wval d))) k Bw.length (by omega)
    rw [ovr_take (by omega), hlow] at hseg2
    have hqd : S / wval d < 18446744073709551616 := by rw [Nat.div_lt_iff_lt_mul hdp, Nat.mul_comm]; exact hS
    have hset : (uW (List.replicate (k + 1) 0 ++ q)).set k (.d (.int .u64 (S / wval d : Nat))) = uW (List.replicate k 0 ++ (S / wval d) :: q) := by rw [uW_set, rep_set]
    have hol : (uW (List.replicate (k + 1) 0 ++ q)).length = m := by rw [uW_length]; simp; omega
    generalize ovr ws k (wordsN (Bw.length + 1) (S % wval d)) = ws' at *
    generalize S / wval d = q0 at *
    refine G1 (fs w1 (fs w2 (fs w3 (fs hg0 (fs hc1 hc2))))) ?_; try with_reducible exact tt
    refine CallS.o1 4 (hdig) (hO := uW_plain _) (hO' := (uW_plain _)) (R1 (fs hol (fs hset w4)) ?_); try with_reducible exact tt
    refine ⟨k, ws', q0 :: q, ⟨by omega, by omega, hsm, by simp [hql]; omega, fun y hy => ?_, ?_, ?_⟩, by omega, by simp, ⟨Subs.refl _, uW_low _ _⟩, Subs.refl _, uW_low _ _⟩
    · rcases List.mem_cons.1 hy with rfl | hy
      · exact hqd
      · exact hsq y hy
    · rw [← hn, hseg2]; exact hround
    · rw [← hn, hlow]; exact hmodl
end
end Go.Proofs.YtbgkkhbgaicmmaaDoor.Am
namespace Go.Proofs.YtbgkkhbgaicmmaaDoor.Am
section
open Go.RowKit
theorem divmod_any (a b : Nat) (ha : size a ≤ 900000) (h0 : 0 < b) (hbs : size b ≤ 900000) : Eqn Tryd.prog n_nat_DivMod [.d (.agg [natW a]), .d (.agg [natW b])] [] (.tup [.d (.agg [natW (a / b)]), .d (.agg [natW (a % b)]), .d (.int .i64 0)]) [] := by
  by_cases hsm : b < 18446744073709551616 ∨ a < b
  · exact divmod_ok a b (by omega) h0 hsm (by omega)
  · have hb1 : 18446744073709551616 ≤ b := by omega
    have hab : b ≤ a := by omega
    refine Eqn.pure r_nat_DivMod (plain_tup3 _ _ _) ?_
    have hlong := long_ok a b hb1 hab ha
    have hz : (b == 0) = false := by simp; omega
    have hsz : 2 ≤ (words b).length := by
      rcases Nat.lt_or_ge (words b).length 2 with h | h
      · exfalso
        have := wval_lt (words_small b)
        rw [words_val] at this
        have h2 : 18446744073709551616 ^ (words b).length ≤ 18446744073709551616 ^ 1 := Nat.pow_le_pow_right (by decide) (by omega)
        omega
      · exact h
    obtain ⟨bn, bl, e', hbn⟩ : ∃ bn bl, natW b = .sl bn bl ∧ bn ≠ 1 := ⟨_, _, rfl, by omega⟩
    have hbn' : ¬ (bn : Int) = 1 := by omega
    have hcz : ¬ cmpZ a b < 0 := by rw [cmpZ_lt]; omega
    simp only [c_nat_DivMod]
    refine G0 ?_; try with_reducible exact tt
    refine CallS.pu (zero_ok b) (R0 ?_); try with_reducible exact tt
    refine AW.cond rfl (fun h => ?_) (fun h => ?_)
    · simp [hz] at h
    refine G0 ?_; try with_reducible exact tt
    refine CallS.pu (cmp_ok a b (by omega) (by omega)) (R1 hcz ?_); try with_reducible exact tt
    refine AW.cond rfl (fun h => ?_) (fun h => ?_)
    · simp [hcz] at h
    rw [e'] at hlong
    refine G1 (fs e' (fs hbn hbn')) ?_; try with_reducible exact tt
    refine AW.cond rfl (fun h => ?_) (fun h => ?_)
    · simp [hbn, hbn'] at h
    · refine G0 ?_; try with_reducible exact tt
      refine CallS.pu (hlong) (R0 ?_); try with_reducible exact tt

theorem gcd_any (a b : Nat) (ha : size a ≤ 900000) (hb : size b ≤ 900000) : Eqn Tryd.prog n_nat_Gcd [.d (.agg [natW a]), .d (.agg [natW b])] [] (.d (.agg [natW (Nat.gcd a b)])) [] := by
  refine Eqn.pure r_nat_Gcd (plain_d _) ?_
  simp only [c_nat_Gcd]
  refine G0 ?_; try with_reducible exact tt
  refine AW.loopT (α := Nat × Nat) 3 (fun _ => []) (fun p => [(0, ⟨25, [.d (natW p.1)]⟩), (1, ⟨25, [.d (natW p.2)]⟩)]) (fun p => size p.1 ≤ 900000 ∧ size p.2 ≤ 900000 ∧ Nat.gcd p.1 p.2 = Nat.gcd a b) (fun p => p.2) (a, b) ?_ ?_ ⟨ha, hb, rfl⟩ ?_ ?_ ?_
  · simp
  · simp
  · simp
  · simp
  rintro ⟨x, y⟩ ⟨hx, hy, hg⟩
  simp only at hx hy hg
  simp
  refine G0 ?_; try with_reducible exact tt
  refine CallS.pu (zero_ok y) (R0 ?_); try with_reducible exact tt
  by_cases h0 : y = 0
  · subst h0
    rw [Nat.gcd_zero_right] at hg
    subst hg
    refine AW.cond rfl (fun h => ?_) (fun h => ?_)
    · simp at h
    refine AW.exit ?_
    (try (simp -implicitDefEqProofs; try simp (disch := omega) only [w64, wu64]))
    refine G0 ?_; try with_reducible exact tt
    refine CallS.pu (of_ok (words (Nat.gcd a b)) (words_small _) (by unfold size at hx; omega)) (R0 ?_); try with_reducible exact tt
    refine Sub1.of ?_
    rw [words_val]
  · have hy0 : 0 < y := by omega
    refine AW.cond rfl (fun h => ?_) (fun h => ?_)
    · refine G0 ?_; try with_reducible exact tt
      refine CallS.pu (divmod_any x y hx hy0 hy) (R0 ?_); try with_reducible exact tt
      refine ⟨y, x % y, ⟨hy, Nat.le_trans (size_le (Nat.mod_le x y)) hx, ?_⟩, Nat.mod_lt _ hy0, Subs.refl _, ?_⟩
      · rw [← hg, Nat.gcd_comm x y, Nat.gcd_rec y x, Nat.gcd_comm]
      · exact Subs.refl _
    · simp at h
      exact absurd h h0
end
end Go.Proofs.YtbgkkhbgaicmmaaDoor.Am
namespace Go.Proofs.YtbgkkhbgaicmmaaDoor.Am
section
theorem mkRat_parts (z : Int) (d : Nat) (hd : 0 < d) : (mkRat z d).num.natAbs = z.natAbs / Nat.gcd z.natAbs d ∧ (mkRat z d).den = d / Nat.gcd z.natAbs d ∧ ((mkRat z d).num < 0 ↔ z < 0) := by
  have hg : 0 < Nat.gcd z.natAbs d := Nat.gcd_pos_of_pos_right _ hd
  rw [Rat.mkRat_def, dif_neg (by omega), Rat.normalize_eq]
  have hdv : ((Nat.gcd z.natAbs d : Nat) : Int) ∣ z := Int.ofNat_dvd_left.2 (Nat.gcd_dvd_left _ _)
  refine ⟨?_, rfl, ?_⟩
  · show (z / ((Nat.gcd z.natAbs d : Nat) : Int)).natAbs = _
    rw [Int.natAbs_ediv_of_dvd hdv, Int.natAbs_natCast]
  · show z / ((Nat.gcd z.natAbs d : Nat) : Int) < 0 ↔ z < 0
    obtain ⟨k, hk⟩ := hdv
    have hg' : 0 < ((Nat.gcd z.natAbs d : Nat) : Int) := by omega
    generalize ((Nat.gcd z.natAbs d : Nat) : Int) = g at *
    rw [hk, Int.mul_ediv_cancel_left _ (by omega)]
    constructor
    · intro h; exact Int.mul_neg_of_pos_of_neg hg' h
    · intro h
      rcases Int.lt_or_le k 0 with h1 | h1
      · exact h1
      · have := Int.mul_nonneg (Int.le_of_lt hg') h1; omega
theorem rat_add (x y : Rat) : x + y = mkRat (x.num * y.den + y.num * x.den) (x.den * y.den) := Rat.add_def' x y
theorem rat_mul (x y : Rat) : x * y = mkRat (x.num * y.num) (x.den * y.den) := Rat.mul_def' x y
theorem rat_lt (x y : Rat) : x < y ↔ x.num * y.den < y.num * x.den := Rat.lt_iff x y
end
end Go.Proofs.YtbgkkhbgaicmmaaDoor.Am
namespace Go.Proofs.YtbgkkhbgaicmmaaDoor.Am
section
open Go.RowKit
/-- whole numbers, fractions -/
def wD (z : Int) : D := .agg [natW z.natAbs, .bool (decide (z < 0))]
def rD (q : Rat) : D := .agg [natW q.num.natAbs, .bool (decide (q.num < 0)), natW (q.den - 1)]

theorem size_mulR (a b : Nat) : size (a * b) ≤ size a + size b := by
  refine words_le (words_top _) ?_
  rw [words_val, Nat.pow_add]
  have ha := wval_lt (words_small a)
  have hb := wval_lt (words_small b)
  rw [words_val] at ha hb
  unfold size
  exact Nat.mul_lt_mul'' ha hb
theorem size_addR (a b : Nat) : size (a + b) ≤ max (size a) (size b) + 1 := by
  refine words_le (words_top _) ?_
  rw [words_val, Nat.pow_succ]
  have ha := wval_lt (words_small a)
  have hb := wval_lt (words_small b)
  rw [words_val] at ha hb
  have h1 : 18446744073709551616 ^ (words a).length ≤ 18446744073709551616 ^ max (size a) (size b) := Nat.pow_le_pow_right (by decide) (Nat.le_max_left _ _)
  have h2 : 18446744073709551616 ^ (words b).length ≤ 18446744073709551616 ^ max (size a) (size b) := Nat.pow_le_pow_right (by decide) (Nat.le_max_right _ _)
  omega

/-- a difference that isn't: less by more -/
theorem sub_more (m n : Nat) (hm : size m ≤ 1000000) (hn : size n ≤ 1000000) (hlt : m < n) : Eqn Tryd.prog n_nat_Sub [.d (.agg [natW m]), .d (.agg [natW n])] [] (.tup [.d (.agg [.nilsl]), .d (.int .i64 2)]) [] := by
  refine Eqn.pure r_nat_Sub Plain.ok ?_
  have hc := cmp_ok m n hm hn
  have hlt' : cmpZ m n < 0 := cmpZ_lt.2 hlt
  simp only [c_nat_Sub]
  refine G0 ?_; try with_reducible exact tt
  refine CallS.pu (hc) (R1 hlt' ?_); try with_reducible exact tt
  refine AW.cond rfl (fun h => ?_) (fun h => ?_)
  · refine G0 ?_; try with_reducible exact tt
  · simp [hlt'] at h

theorem wmakeB_ok (s : Bool) (a : Nat) : Eqn Tryd.prog n_whole_Make [.d (.bool s), .d (.agg [natW a])] [] (.d (.agg [natW a, .bool (s && decide (a ≠ 0))])) [] := by
  refine Eqn.pure r_whole_Make Plain.ok ?_
  have hz := zero_ok a
  simp only [c_whole_Make]
  cases s with
  | true =>
    refine G0 ?_; try with_reducible exact tt
    refine CallS.pu (hz) (R0 ?_); try with_reducible exact tt
    refine Sub1.of ?_
    simp
    cases a <;> rfl
  | false =>
    refine G0 ?_; try with_reducible exact tt
theorem wmake_int (s : Bool) (a : Nat) (z : Int) (hz : z = if s then -(a : Int) else a) : Eqn Tryd.prog n_whole_Make [.d (.bool s), .d (.agg [natW a])] [] (.d (wD z)) [] := by
  have h := wmakeB_ok s a
  have e : D.agg [natW a, .bool (s && decide (a ≠ 0))] = wD z := by
    subst hz
    unfold wD
    cases s with
    | true =>
      simp only [if_true, Int.natAbs_neg, Int.natAbs_natCast, Bool.true_and]
      congr 4
      rw [decide_eq_decide]; omega
    | false =>
      simp only [Bool.false_and, Int.natAbs_natCast, Bool.false_eq_true, if_false]
      congr 4
  rw [e] at h
  exact h
theorem wabs_ok (z : Int) : Eqn Tryd.prog n_whole_Whole_Abs [.d (wD z)] [] (.d (.agg [natW z.natAbs])) [] := abs_ok _ _
theorem wneg_ok (z : Int) : Eqn Tryd.prog n_whole_Whole_Neg [.d (wD z)] [] (.d (.bool (decide (z < 0)))) [] := neg_ok _ _

theorem wmul_int (x y : Int) (hx : size x.natAbs ≤ 400000) (hy : size y.natAbs ≤ 400000) : Eqn Tryd.prog n_whole_Mul [.d (wD x), .d (wD y)] [] (.d (wD (x * y))) [] := by
  refine Eqn.pure r_whole_Mul (plain_d _) ?_
  have hm := mul_ok x.natAbs y.natAbs (by omega) (by omega)
  have hk := fun s h => wmake_int s (x.natAbs * y.natAbs) (x * y) h
  simp only [c_whole_Mul, wD] at hk ⊢
  refine G0 ?_; try with_reducible exact tt
  refine CallS.pu (hm) (R0 ?_); try with_reducible exact tt
  have e : x * y = if (decide (x < 0) != decide (y < 0)) = true then -((x.natAbs * y.natAbs : Nat) : Int) else ((x.natAbs * y.natAbs : Nat) : Int) := by
    rw [Int.natCast_mul]
    by_cases h1 : x < 0 <;> by_cases h2 : y < 0 <;> simp only [h1, h2, decide_true, decide_false]
    · rw [if_neg (by decide), Int.ofNat_natAbs_of_nonpos (by omega), Int.ofNat_natAbs_of_nonpos (by omega), Int.neg_mul_neg]
    · rw [if_pos (by decide), Int.ofNat_natAbs_of_nonpos (by omega), Int.natAbs_of_nonneg (by omega), Int.neg_mul, Int.neg_neg]
    · rw [if_pos (by decide), Int.ofNat_natAbs_of_nonpos (a := y) (by omega), Int.natAbs_of_nonneg (by omega), Int.mul_neg, Int.neg_neg]
    · rw [if_neg (by decide), Int.natAbs_of_nonneg (by omega), Int.natAbs_of_nonneg (by omega)]
  replace hk := hk _ e
  refine CallS.pu (hk) (R0 ?_); try with_reducible exact tt

theorem wminus_int (x : Int) : Eqn Tryd.prog n_whole_Minus [.d (wD x)] [] (.d (wD (-x))) [] := by
  refine Eqn.pure r_whole_Minus (plain_d _) ?_
  have hk := wmake_int (!decide (x < 0)) x.natAbs (-x) (by
    by_cases h : x < 0
    · simp only [h, decide_true, Bool.not_true, Bool.false_eq_true, if_false]; omega
    · simp only [h, decide_false, Bool.not_false, if_true]; omega)
  simp only [c_whole_Minus, wD] at hk ⊢
  refine G0 ?_; try with_reducible exact tt
  refine CallS.pu (hk) (R0 ?_); try with_reducible exact tt

theorem wadd_int (x y : Int) (hx : size x.natAbs ≤ 400000) (hy : size y.natAbs ≤ 400000) : Eqn Tryd.prog n_whole_Add [.d (wD x), .d (wD y)] [] (.d (wD (x + y))) [] := by
  refine Eqn.pure r_whole_Add (plain_d _) ?_
  by_cases hs : decide (x < 0) = decide (y < 0)
  · have ha := add_ok x.natAbs y.natAbs (by omega) (by omega)
    have hk := wmake_int (decide (x < 0)) (x.natAbs + y.natAbs) (x + y) (by
      rw [decide_eq_decide] at hs
      by_cases h : x < 0
      · rw [if_pos (by simpa using h)]; omega
      · rw [if_neg (by simpa using h)]; omega)
    simp only [c_whole_Add, wD] at hk ⊢
    generalize decide (x < 0) = sx at *
    generalize decide (y < 0) = sy at *
    subst hs
    refine G0 ?_; try with_reducible exact tt
    refine AW.cond rfl (fun h => ?_) (fun h => ?_)
    · refine G0 ?_; try with_reducible exact tt
      refine CallS.pu (ha) (R0 ?_); try with_reducible exact tt
      refine CallS.pu (hk) (R0 ?_); try with_reducible exact tt
    · simp at h
  · have hs' : ¬ (x < 0 ↔ y < 0) := fun h => hs (decide_eq_decide.2 h)
    by_cases hle : y.natAbs ≤ x.natAbs
    · have ha := sub_ok x.natAbs y.natAbs (by omega) hle
      have hk := wmake_int (decide (x < 0)) (x.natAbs - y.natAbs) (x + y) (by
        by_cases h : x < 0
        · rw [if_pos (by simpa using h)]; omega
        · rw [if_neg (by simpa using h)]; omega)
      simp only [c_whole_Add, wD] at hk ⊢
      generalize decide (x < 0) = sx at *
      generalize decide (y < 0) = sy at *
      have hs2 : (sx == sy) = false := by simpa using hs
      refine G1 (fs hs2 hs) ?_; try with_reducible exact tt
      refine AW.cond rfl (fun h => ?_) (fun h => ?_)
      · simp [hs2, hs] at h
      · refine G0 ?_; try with_reducible exact tt
        refine CallS.pu (ha) (R0 ?_); try with_reducible exact tt
        refine AW.cond rfl (fun h => ?_) (fun h => ?_)
        · refine G0 ?_; try with_reducible exact tt
          refine CallS.pu (hk) (R0 ?_); try with_reducible exact tt
        · simp at h
    · have hb := sub_more x.natAbs y.natAbs (by omega) (by omega) (by omega)
      have ha := sub_ok y.natAbs x.natAbs (by omega) (by omega)
      have hk := wmake_int (decide (y < 0)) (y.natAbs - x.natAbs) (x + y) (by
        by_cases h : y < 0
        · rw [if_pos (by simpa using h)]; omega
        · rw [if_neg (by simpa using h)]; omega)
      simp only [c_whole_Add, wD] at hk ⊢
      generalize decide (x < 0) = sx at *
      generalize decide (y < 0) = sy at *
      have hs2 : (sx == sy) = false := by simpa using hs
      refine G1 (fs hs2 hs) ?_; try with_reducible exact tt
      refine AW.cond rfl (fun h => ?_) (fun h => ?_)
      · simp [hs2, hs] at h
      · refine G0 ?_; try with_reducible exact tt
        refine CallS.pu (hb) (R0 ?_); try with_reducible exact tt
        refine AW.cond rfl (fun h => ?_) (fun h => ?_)
        · simp at h
        · refine G0 ?_; try with_reducible exact tt
          refine CallS.pu (ha) (R0 ?_); try with_reducible exact tt
          refine CallS.pu (hk) (R0 ?_); try with_reducible exact tt

/-- less, the same, more -/
def cmpI (x y : Int) : Int := if x < y then -1 else if y < x then 1 else 0
theorem wcmp_int (x y : Int) (hx : size x.natAbs ≤ 900000) (hy : size y.natAbs ≤ 900000) : Eqn Tryd.prog n_whole_Cmp [.d (wD x), .d (wD y)] [] (.d (.int .i64 (cmpI x y))) [] := by
  refine Eqn.pure r_whole_Cmp (plain_d _) ?_
  have h1 := cmp_ok y.natAbs x.natAbs (by omega) (by omega)
  have h2 := cmp_ok x.natAbs y.natAbs (by omega) (by omega)
  simp only [c_whole_Cmp, wD]
  by_cases hx0 : x < 0 <;> by_cases hy0 : y < 0
  · have e : cmpI x y = cmpZ y.natAbs x.natAbs := by
      unfold cmpI cmpZ
      split <;> split <;> first | omega | (split <;> omega)
    rw [← e] at h1
    simp only [hx0, hy0, decide_true, decide_false]
    refine G0 ?_; try with_reducible exact tt
    refine AW.cond rfl (fun h => ?_) (fun h => ?_)
    · refine G0 ?_; try with_reducible exact tt
      refine CallS.pu (h1) (R0 ?_); try with_reducible exact tt
    · simp at h
  · have e : cmpI x y = -1 := by unfold cmpI; rw [if_pos (by omega)]
    rw [e]
    simp only [hx0, hy0, decide_true, decide_false]
    refine G0 ?_; try with_reducible exact tt
    refine AW.cond rfl (fun h => ?_) (fun h => ?_)
    · simp at h
    refine G0 ?_; try with_reducible exact tt
    refine AW.cond rfl (fun h => ?_) (fun h => ?_)
    · refine G0 ?_; try with_reducible exact tt
    · simp at h
  · have e : cmpI x y = 1 := by unfold cmpI; rw [if_neg (by omega), if_pos (by omega)]
    rw [e]
    simp only [hx0, hy0, decide_true, decide_false]
    refine G0 ?_; try with_reducible exact tt
    refine AW.cond rfl (fun h => ?_) (fun h => ?_)
    · simp at h
    refine G0 ?_; try with_reducible exact tt
    refine AW.cond rfl (fun h => ?_) (fun h => ?_)
    · simp at h
    refine G0 ?_; try with_reducible exact tt
    refine AW.cond rfl (fun h => ?_) (fun h => ?_)
    · refine G0 ?_; try with_reducible exact tt
    · simp at h
  · have e : cmpI x y = cmpZ x.natAbs y.natAbs := by
      unfold cmpI cmpZ
      split <;> split <;> first | omega | (split <;> omega)
    rw [← e] at h2
    simp only [hx0, hy0, decide_true, decide_false]
    refine G0 ?_; try with_reducible exact tt
    refine AW.cond rfl (fun h => ?_) (fun h => ?_)
    · simp at h
    refine G0 ?_; try with_reducible exact tt
    refine AW.cond rfl (fun h => ?_) (fun h => ?_)
    · simp at h
    refine G0 ?_; try with_reducible exact tt
    refine AW.cond rfl (fun h => ?_) (fun h => ?_)
    · simp at h
    refine G0 ?_; try with_reducible exact tt
    refine CallS.pu (h2) (R0 ?_); try with_reducible exact tt
end
end Go.Proofs.YtbgkkhbgaicmmaaDoor.Am
namespace Go.Proofs.YtbgkkhbgaicmmaaDoor.Am
section
open Go.RowKit
theorem made_int (z : Int) (d : Nat) (hd : 0 < d) (hz : size z.natAbs ≤ 900000) (hds : size d ≤ 900000) : Eqn Tryd.prog n_rat_made [.d (wD z), .d (.agg [natW d])] [] (.d (rD (mkRat z d))) [] := by
  refine Eqn.pure r_rat_made (plain_d _) ?_
  obtain ⟨p1, p2, p3⟩ := mkRat_parts z d hd
  have hg0 : 0 < Nat.gcd z.natAbs d := Nat.gcd_pos_of_pos_right _ hd
  have hgs : size (Nat.gcd z.natAbs d) ≤ 900000 := Nat.le_trans (size_le (Nat.gcd_le_right _ hd)) hds
  have h1 := gcd_any z.natAbs d hz hds
  have h2 := divmod_any z.natAbs (Nat.gcd z.natAbs d) hz hg0 hgs
  have h3 := divmod_any d (Nat.gcd z.natAbs d) hds hg0 hgs
  have hdp : 0 < d / Nat.gcd z.natAbs d := Nat.div_pos (Nat.gcd_le_right _ hd) hg0
  have hdq : size (d / Nat.gcd z.natAbs d) ≤ 900000 := Nat.le_trans (size_le (Nat.div_le_self _ _)) hds
  have h4 := sub_ok (d / Nat.gcd z.natAbs d) 1 (by omega) hdp
  have hab := wabs_ok z
  have hng := wneg_ok z
  have hk := wmakeB_ok (decide (z < 0)) (z.natAbs / Nat.gcd z.natAbs d)
  have hsg : (decide (z < 0) && decide (z.natAbs / Nat.gcd z.natAbs d ≠ 0)) = decide ((mkRat z d).num < 0) := by
    rw [Bool.eq_iff_iff]
    simp only [Bool.and_eq_true, decide_eq_true_eq, p3]
    rw [← p1]
    constructor
    · intro h; exact h.1
    · intro h
      have := p3.2 h
      exact ⟨h, by omega⟩
  rw [hsg, ← p1] at hk
  rw [← p1] at h2
  rw [← p2] at h3 h4
  simp only [c_rat_made, rD, wD] at hab hng ⊢
  refine G0 ?_; try with_reducible exact tt
  refine CallS.pu (hab) (R0 ?_); try with_reducible exact tt
  refine CallS.pu (h1) (R0 ?_); try with_reducible exact tt
  refine CallS.pu (hab) (R0 ?_); try with_reducible exact tt
  refine CallS.pu (h2) (R0 ?_); try with_reducible exact tt
  refine CallS.pu (h3) (R0 ?_); try with_reducible exact tt
  refine CallS.pf 8 1 ⟨55, _⟩ [.int .u64 (1 : Nat)] (of_ok [1] (small_one (by omega)) (by simp)) (by first | rfl | (simp; done)) (R0 ?_); try with_reducible exact tt
  refine CallS.pu (h4) (R0 ?_); try with_reducible exact tt
  refine CallS.pu (hng) (R0 ?_); try with_reducible exact tt
  refine CallS.pu (hk) (R0 ?_); try with_reducible exact tt

theorem rden_int (q : Rat) (h : size q.den ≤ 900000) : Eqn Tryd.prog n_rat_Rat_Den [.d (rD q)] [] (.d (.agg [natW q.den])) [] := by
  have hp := q.den_pos
  have := rden_ok q.num.natAbs (q.den - 1) (decide (q.num < 0)) (Nat.le_trans (size_le (Nat.sub_le _ _)) (by omega))
  rw [show q.den - 1 + 1 = q.den by omega] at this
  exact this
theorem rdenw_int (q : Rat) (h : size q.den ≤ 900000) : Eqn Tryd.prog n_rat_Rat_den [.d (rD q)] [] (.d (wD q.den)) [] := by
  refine Eqn.pure r_rat_Rat_den (plain_d _) ?_
  have h1 := rden_int q h
  have h2 := wmake_int false q.den (q.den : Int) rfl
  simp only [c_rat_Rat_den, rD, wD] at h1 h2 ⊢
  refine G0 ?_; try with_reducible exact tt
  refine CallS.pu (h1) (R0 ?_); try with_reducible exact tt
  refine CallS.pu (h2) (R0 ?_); try with_reducible exact tt

/-- a fraction of so many words at most -/
def RS (q : Rat) (N : Nat) : Prop := size q.num.natAbs ≤ N ∧ size q.den ≤ N
theorem RS.le {q : Rat} {N M : Nat} (h : RS q N) (hm : N ≤ M) : RS q M := ⟨Nat.le_trans h.1 hm, Nat.le_trans h.2 hm⟩
theorem RS.mk' {z : Int} {d N : Nat} (hd : 0 < d) (h1 : size z.natAbs ≤ N) (h2 : size d ≤ N) : RS (mkRat z d) N := by
  obtain ⟨p1, p2, -⟩ := mkRat_parts z d hd
  refine ⟨?_, ?_⟩
  · rw [p1]; exact Nat.le_trans (size_le (Nat.div_le_self _ _)) h1
  · rw [p2]; exact Nat.le_trans (size_le (Nat.div_le_self _ _)) h2
theorem RS.mul {x y : Rat} {N M : Nat} (hx : RS x N) (hy : RS y M) : RS (x * y) (N + M) := by
  rw [rat_mul]
  refine RS.mk' (Nat.mul_pos x.den_pos y.den_pos) ?_ ?_
  · rw [Int.natAbs_mul]; have := size_mulR x.num.natAbs y.num.natAbs; have := hx.1; have := hy.1; omega
  · have := size_mulR x.den y.den; have := hx.2; have := hy.2; omega
theorem RS.add {x y : Rat} {N M : Nat} (hx : RS x N) (hy : RS y M) : RS (x + y) (N + M + 1) := by
  rw [rat_add]
  refine RS.mk' (Nat.mul_pos x.den_pos y.den_pos) ?_ ?_
  · have h1 := size_le (Int.natAbs_add_le (x.num * y.den) (y.num * x.den))
    have h2 := size_addR (x.num * y.den).natAbs (y.num * x.den).natAbs
    rw [Int.natAbs_mul, Int.natAbs_mul, Int.natAbs_natCast, Int.natAbs_natCast] at *
    have h3 := size_mulR x.num.natAbs y.den
    have h4 := size_mulR y.num.natAbs x.den
    have := hx.1; have := hy.1; have := hx.2; have := hy.2
    omega
  · have := size_mulR x.den y.den; have := hx.2; have := hy.2; omega
theorem RS.neg {x : Rat} {N : Nat} (hx : RS x N) : RS (-x) N := by
  refine ⟨?_, ?_⟩
  · rw [Rat.neg_num, Int.natAbs_neg]; exact hx.1
  · rw [Rat.neg_den]; exact hx.2
theorem RS.sub {x y : Rat} {N M : Nat} (hx : RS x N) (hy : RS y M) : RS (x - y) (N + M + 1) := by
  rw [Rat.sub_eq_add_neg]; exact hx.add hy.neg

theorem rmul_int (x y : Rat) (hx : RS x 100000) (hy : RS y 100000) : Eqn Tryd.prog n_rat_Mul [.d (rD x), .d (rD y)] [] (.d (rD (x * y))) [] := by
  refine Eqn.pure r_rat_Mul (plain_d _) ?_
  have h1 := wmul_int x.num y.num (by have := hx.1; omega) (by have := hy.1; omega)
  have h2 := rden_int x (by have := hx.2; omega)
  have h3 := rden_int y (by have := hy.2; omega)
  have h4 := mul_ok x.den y.den (by have := hx.2; omega) (by have := hy.2; omega)
  have h5 := made_int (x.num * y.num) (x.den * y.den) (Nat.mul_pos x.den_pos y.den_pos) (by rw [Int.natAbs_mul]; have := size_mulR x.num.natAbs y.num.natAbs; have := hx.1; have := hy.1; omega) (by have := size_mulR x.den y.den; have := hx.2; have := hy.2; omega)
  rw [← rat_mul] at h5
  simp only [c_rat_Mul, rD, wD] at h1 h2 h3 h5 ⊢
  refine G0 ?_; try with_reducible exact tt
  refine CallS.pu (h1) (R0 ?_); try with_reducible exact tt
  refine CallS.pu (h2) (R0 ?_); try with_reducible exact tt
  refine CallS.pu (h3) (R0 ?_); try with_reducible exact tt
  refine CallS.pu (h4) (R0 ?_); try with_reducible exact tt
  refine CallS.pu (h5) (R0 ?_); try with_reducible exact tt

theorem radd_rat (x y : Rat) (hx : RS x 100000) (hy : RS y 100000) : Eqn Tryd.prog n_rat_Add [.d (rD x), .d (rD y)] [] (.d (rD (x + y))) [] := by
  refine Eqn.pure r_rat_Add (plain_d _) ?_
  have x1 := hx.1; have x2 := hx.2; have y1 := hy.1; have y2 := hy.2
  have s1 := size_mulR x.num.natAbs y.den
  have s2 := size_mulR y.num.natAbs x.den
  have e1 : (x.num * (y.den : Int)).natAbs = x.num.natAbs * y.den := by rw [Int.natAbs_mul, Int.natAbs_natCast]
  have e2 : (y.num * (x.den : Int)).natAbs = y.num.natAbs * x.den := by rw [Int.natAbs_mul, Int.natAbs_natCast]
  have h1 := wmul_int x.num y.den (by omega) (by rw [Int.natAbs_natCast]; omega)
  have h1' := wmul_int y.num x.den (by omega) (by rw [Int.natAbs_natCast]; omega)
  have h2 := rden_int x (by omega)
  have h3 := rden_int y (by omega)
  have h2' := rdenw_int x (by omega)
  have h3' := rdenw_int y (by omega)
  have h4 := mul_ok x.den y.den (by omega) (by omega)
  have h6 := wadd_int (x.num * y.den) (y.num * x.den) (by rw [e1]; omega) (by rw [e2]; omega)
  have h5 := made_int (x.num * y.den + y.num * x.den) (x.den * y.den) (Nat.mul_pos x.den_pos y.den_pos) (by
    have h1 := size_le (Int.natAbs_add_le (x.num * y.den) (y.num * x.den))
    have h2 := size_addR (x.num * y.den).natAbs (y.num * x.den).natAbs
    rw [e1, e2] at *
    omega) (by have := size_mulR x.den y.den; omega)
  rw [← rat_add] at h5
  simp only [c_rat_Add, rD] at h2 h3 h2' h3' h5 ⊢
  generalize hz1 : x.num * (y.den : Int) = z1 at *
  generalize hz2 : y.num * (x.den : Int) = z2 at *
  simp only [wD] at h1 h1' h2' h3' h5 h6
  refine G0 ?_; try with_reducible exact tt
  refine CallS.pu (h3') (R0 ?_); try with_reducible exact tt
  refine CallS.pu (h1) (R0 ?_); try with_reducible exact tt
  refine CallS.pu (h2') (R0 ?_); try with_reducible exact tt
  refine CallS.pu (h1') (R0 ?_); try with_reducible exact tt
  refine CallS.pu (h6) (R0 ?_); try with_reducible exact tt
  refine CallS.pu (h2) (R0 ?_); try with_reducible exact tt
  refine CallS.pu (h3) (R0 ?_); try with_reducible exact tt
  refine CallS.pu (h4) (R0 ?_); try with_reducible exact tt
  refine CallS.pu (h5) (R0 ?_); try with_reducible exact tt

theorem rsub_rat (x y : Rat) (hx : RS x 100000) (hy : RS y 100000) : Eqn Tryd.prog n_rat_Sub [.d (rD x), .d (rD y)] [] (.d (rD (x - y))) [] := by
  refine Eqn.pure r_rat_Sub (plain_d _) ?_
  have h1 := wminus_int y.num
  have h2 := radd_rat x (-y) hx hy.neg
  rw [← Rat.sub_eq_add_neg] at h2
  simp only [c_rat_Sub, rD, wD, Rat.neg_num, Rat.neg_den] at h1 h2 ⊢
  obtain ⟨w, hw⟩ : ∃ w, D.bool (decide (-y.num < 0)) = w := ⟨_, rfl⟩
  obtain ⟨u, hu⟩ : ∃ u, natW (-y.num).natAbs = u := ⟨_, rfl⟩
  rw [hu, hw] at h1 h2
  clear hu hw
  refine G0 ?_; try with_reducible exact tt
  refine CallS.pu (h1) (R0 ?_); try with_reducible exact tt
  refine CallS.pu (h2) (R0 ?_); try with_reducible exact tt

/-- less, the same, more -/
def cmpQ (x y : Rat) : Int := if x < y then -1 else if y < x then 1 else 0
theorem rcmp_rat (x y : Rat) (hx : RS x 100000) (hy : RS y 100000) : Eqn Tryd.prog n_rat_Cmp [.d (rD x), .d (rD y)] [] (.d (.int .i64 (cmpQ x y))) [] := by
  refine Eqn.pure r_rat_Cmp (plain_d _) ?_
  have x1 := hx.1; have x2 := hx.2; have y1 := hy.1; have y2 := hy.2
  have s1 := size_mulR x.num.natAbs y.den
  have s2 := size_mulR y.num.natAbs x.den
  have e1 : (x.num * (y.den : Int)).natAbs = x.num.natAbs * y.den := by rw [Int.natAbs_mul, Int.natAbs_natCast]
  have e2 : (y.num * (x.den : Int)).natAbs = y.num.natAbs * x.den := by rw [Int.natAbs_mul, Int.natAbs_natCast]
  have h1 := wmul_int x.num y.den (by omega) (by rw [Int.natAbs_natCast]; omega)
  have h1' := wmul_int y.num x.den (by omega) (by rw [Int.natAbs_natCast]; omega)
  have h2' := rdenw_int x (by omega)
  have h3' := rdenw_int y (by omega)
  have h6 := wcmp_int (x.num * y.den) (y.num * x.den) (by rw [e1]; omega) (by rw [e2]; omega)
  have e : cmpI (x.num * y.den) (y.num * x.den) = cmpQ x y := by
    have a := rat_lt x y
    have b := rat_lt y x
    unfold cmpI cmpQ
    by_cases h : x < y
    · rw [if_pos h, if_pos (a.1 h)]
    · rw [if_neg h, if_neg (fun q => h (a.2 q))]
      by_cases h2 : y < x
      · rw [if_pos h2, if_pos (b.1 h2)]
      · rw [if_neg h2, if_neg (fun q => h2 (b.2 q))]
  rw [e] at h6
  simp only [c_rat_Cmp, rD] at h2' h3' ⊢
  generalize hz1 : x.num * (y.den : Int) = z1 at *
  generalize hz2 : y.num * (x.den : Int) = z2 at *
  simp only [wD] at h1 h1' h2' h3' h6
  refine G0 ?_; try with_reducible exact tt
  refine CallS.pu (h3') (R0 ?_); try with_reducible exact tt
  refine CallS.pu (h1) (R0 ?_); try with_reducible exact tt
  refine CallS.pu (h2') (R0 ?_); try with_reducible exact tt
  refine CallS.pu (h1') (R0 ?_); try with_reducible exact tt
  refine CallS.pu (h6) (R0 ?_); try with_reducible exact tt

theorem nil_sub {I : Nat → Prop} {w : World} {v : Value} (h : D.rep I w .nilsl v) : D.rep I w (natW 0) v := by
  have := Sub1.nil (⟨fun _ => none, I, w⟩ : Mem) v (by rw [V.rep_d]; exact h)
  rw [V.rep_d] at this
  exact this
theorem Sub1.rat0 {x y : D} : Sub1 (.d (.agg [x, y, .nilsl])) (.d (.agg [x, y, natW 0])) := fun m v k => by
  rw [V.rep_d] at k ⊢
  unfold D.rep at k ⊢
  obtain ⟨vs, h1, h0, h2⟩ := k
  refine ⟨vs, h1, h0, ?_⟩
  obtain ⟨a, r, rfl, ha, h2⟩ := D.reps_cons'.1 h2
  obtain ⟨b, r, rfl, hb, h2⟩ := D.reps_cons'.1 h2
  obtain ⟨c, r, rfl, hc, h2⟩ := D.reps_cons'.1 h2
  exact D.reps_cons.2 ⟨ha, D.reps_cons.2 ⟨hb, D.reps_cons.2 ⟨nil_sub hc, h2⟩⟩⟩
end
end Go.Proofs.YtbgkkhbgaicmmaaDoor.Am
namespace Go.Proofs.YtbgkkhbgaicmmaaDoor.Am
section
open Go.RowKit
theorem and1_i64 (m : Nat) (hm : m ≤ 4611686018427387904) : bits BinOp.and IntKind.i64 (m : Int) 1 = ((m % 2 : Nat) : Int) := by
  show IntKind.i64.wrap (((BitVec.ofInt 64 (m : Int)) &&& (BitVec.ofInt 64 (1 : Int))).toNat : Int) = _
  have h1 : (BitVec.ofInt 64 (1 : Int)).toNat = 1 := by decide
  rw [BitVec.toNat_and, h1, BitVec.ofInt_natCast, BitVec.toNat_ofNat, Nat.mod_eq_of_lt (by omega), Nat.and_one_is_mod]
  exact w64 (by omega) (by omega)

theorem pow_round {r x m T : Nat} (h : r * x ^ m = T) : (if m % 2 = 1 then r * x else r) * (x * x) ^ (m / 2) = T := by
  have e : x ^ m = (x * x) ^ (m / 2) * x ^ (m % 2) := by
    rw [← Nat.pow_two, ← Nat.pow_mul, ← Nat.pow_add, Nat.div_add_mod]
  rw [← h, e]
  rcases Nat.mod_two_eq_zero_or_one m with h2 | h2
  · rw [h2, if_neg (by omega)]; simp
  · rw [h2, if_pos rfl, Nat.pow_one, Nat.mul_assoc, Nat.mul_comm x]
theorem pow_le_of {r x m T : Nat} (h : r * x ^ m = T) (hm : 0 < m) (hx : 1 ≤ x) (hr : 1 ≤ r) : x ≤ T ∧ r ≤ T := by
  have h1 : 1 ≤ x ^ m := Nat.pow_pos hx
  have h2 : x ≤ x ^ m := by
    calc x = x ^ 1 := (Nat.pow_one x).symm
      _ ≤ x ^ m := Nat.pow_le_pow_right hx hm
  constructor
  · rw [← h]; exact Nat.le_trans h2 (Nat.le_mul_of_pos_left _ hr)
  · rw [← h]; exact Nat.le_mul_of_pos_right _ h1

set_option maxHeartbeats 2000000 in
theorem npow_ok (a n : Nat) (hn : n ≤ 8192) (hb : bitsN a ≤ 1 ∨ n ≤ 8192 / bitsN a) (has : size a ≤ 129) : Eqn Tryd.prog n_nat_Pow [.d (.agg [natW a]), .d (.int .i64 n)] [] (.tup [.d (.agg [natW (a ^ n)]), .d (.int .i64 0)]) [] := by
  refine Eqn.pure r_nat_Pow Plain.ok ?_
  have hbits := bits_ok a (by omega)
  have hof : Eqn Tryd.prog n_nat_Of [.d (.sl 1 [.int .u64 (1 : Nat)])] [] (.d (.agg [natW 1])) [] := by
    have := of_ok [1] (small_one (by omega)) (by simp)
    simpa [W, wval] using this
  obtain ⟨q, hq⟩ : ∃ q, bitsN a = q := ⟨_, rfl⟩
  simp only [c_nat_Pow]
  have hn0 : ¬ (n : Int) < 0 := by omega
  rw [hq] at hbits hb
  obtain ⟨T, hT⟩ : ∃ T, a ^ n = T := ⟨_, rfl⟩
  have hTs : size T ≤ 129 := by
    rw [← hT]
    by_cases h1 : q ≤ 1
    · have : a ≤ 1 := by have := lt_bitsN a; rw [hq] at this; have := Nat.pow_le_pow_right (n := 2) (by omega) h1; omega
      have h2 : a ^ n ≤ 1 := by have := Nat.pow_le_pow_left this n; rwa [Nat.one_pow] at this
      have := size_le h2
      have := size_one (x := 1) (by omega)
      omega
    · refine size_pow' (n := q * n + 1) ?_ ?_
      · rw [Nat.pow_succ]
        have h2 := lt_bitsN a
        rw [hq] at h2
        have h3 : a ^ n ≤ (2 ^ q) ^ n := Nat.pow_le_pow_left (Nat.le_of_lt h2) n
        rw [← Nat.pow_mul] at h3
        have := Nat.two_pow_pos (q * n)
        omega
      · have h2 : n ≤ 8192 / q := hb.resolve_left h1
        rw [Nat.le_div_iff_mul_le (by omega)] at h2
        rw [Nat.mul_comm] at h2
        omega
  obtain ⟨n', hn', hn2⟩ : ∃ n' : Nat, n' = (if q ≤ 1 then min n 1 else n) ∧ a ^ n' = T := by
    refine ⟨_, rfl, ?_⟩
    by_cases h1 : q ≤ 1
    · have ha1 : a ≤ 1 := by have := lt_bitsN a; rw [hq] at this; have := Nat.pow_le_pow_right (n := 2) (by omega) h1; omega
      rw [if_pos h1, ← hT]
      rcases (by omega : a = 0 ∨ a = 1) with rfl | rfl
      · rcases Nat.eq_zero_or_pos n with rfl | hp
        · rfl
        · rw [Nat.min_eq_right hp, Nat.zero_pow hp]
      · rw [Nat.one_pow, Nat.one_pow]
    · rw [if_neg h1, hT]
  rw [hT]
  by_cases h1 : q ≤ 1
  · rw [if_pos h1] at hn'
    have hq1 : ¬ (1 : Int) < q := by omega
    have hq1n : ¬ 1 < q := by omega
    have hq2 : (q : Int) ≤ 1 := by omega
    have hmin : min (n : Int) 1 = (n' : Int) := by omega
    have hn8 : n' ≤ 8192 := by omega
    have hn1 : 1 < n' → 1 ≤ a ∧ 1 ≤ 1 := fun h => by omega
    refine G1 hn0 ?_; try with_reducible exact tt
    refine AW.cond rfl (fun h => ?_) (fun h => ?_)
    · simp [hn0] at h
    refine G0 ?_; try with_reducible exact tt
    refine CallS.pu (hbits) (R1 (fs hq1 (fs hq1n h1)) ?_); try with_reducible exact tt
    refine AW.cond rfl (fun h => ?_) (fun h => ?_)
    · simp at h
    refine AW.skip ?_
    simp
    refine G0 ?_; try with_reducible exact tt
    refine CallS.pf 2 1 ⟨55, _⟩ [.int .u64 (1 : Nat)] (hof) (by first | rfl | (simp; done)) (R0 ?_); try with_reducible exact tt
    refine CallS.pu (hbits) (R1 (fs hq2 h1) ?_); try with_reducible exact tt
    refine AW.cond rfl (fun h => ?_) (fun h => ?_)
    rotate_left
    · simp [hq2, h1] at h
    refine G1 hmin ?_; try with_reducible exact tt
    refine AW.loopT (α := Nat × Nat × Nat) 4 (fun s => [(1, .d (.int .i64 (s.1 : Nat)))]) (fun s => [(0, ⟨25, [.d (natW s.2.1)]⟩), (3, ⟨25, [.d (natW s.2.2)]⟩)]) (fun s => s.1 ≤ 8192 ∧ s.2.2 * s.2.1 ^ s.1 = T ∧ (0 < s.1 → size s.2.1 ≤ 200 ∧ size s.2.2 ≤ 200) ∧ (1 < s.1 → 1 ≤ s.2.1 ∧ 1 ≤ s.2.2)) (fun s => s.1) (n', a, 1) ?_ ?_ ⟨hn8, by rw [Nat.one_mul]; exact hn2, fun _ => ⟨Nat.le_trans has (by omega), Nat.le_trans (size_one (x := 1) (by omega)) (by omega)⟩, hn1⟩ ?_ ?_ ?_
    · simp
    · simp
    · simp
    · simp
    clear hn8 hn1 hn2 hn'
    rintro ⟨m, x, r⟩ ⟨hm8, hT2, hsz, hpos⟩
    simp only at hm8 hT2 hsz hpos
    simp
    by_cases hm0 : m = 0
    · subst hm0
      rw [Nat.pow_zero, Nat.mul_one] at hT2
      subst hT2
      refine G0 ?_; try with_reducible exact tt
      refine AW.cond rfl (fun h => ?_) (fun h => ?_)
      · simp at h
      refine AW.exit ?_
      (try (simp -implicitDefEqProofs; try simp (disch := omega) only [w64, wu64]))
      refine G0 ?_; try with_reducible exact tt
    · have hm1 : (0 : Int) < m := by omega
      have hm2 : 0 < m := by omega
      obtain ⟨sx, sr⟩ := hsz hm2
      have hand := and1_i64 m (by omega)
      have hm1' := mul_ok r x (by omega) (by omega)
      have hm2' := mul_ok x x (by omega) (by omega)
      have hdv : (m : Int) / 2 = ((m / 2 : Nat) : Int) := rfl
      have hr := pow_round hT2
      have hnext : (1 < m / 2 → 1 ≤ x * x ∧ 1 ≤ (if m % 2 = 1 then r * x else r)) := fun h => by
        obtain ⟨p1, p2⟩ := hpos (by omega)
        refine ⟨Nat.mul_pos p1 p1, ?_⟩
        split
        · exact Nat.mul_pos p2 p1
        · exact p2
      have hnext2 : (0 < m / 2 → size (x * x) ≤ 200 ∧ size (if m % 2 = 1 then r * x else r) ≤ 200) := fun h => by
        obtain ⟨p1, p2⟩ := hpos (by omega)
        have q1 : 1 ≤ x * x := Nat.mul_pos p1 p1
        have q2 : 1 ≤ (if m % 2 = 1 then r * x else r) := by
          split
          · exact Nat.mul_pos p2 p1
          · exact p2
        obtain ⟨k1, k2⟩ := pow_le_of hr h q1 q2
        exact ⟨Nat.le_trans (size_le k1) (by omega), Nat.le_trans (size_le k2) (by omega)⟩
      have hlt2 : m / 2 < m := by omega
      generalize m / 2 = hm at *
      rcases Nat.mod_two_eq_zero_or_one m with h2 | h2
      · rw [h2] at hand hr hnext hnext2
        rw [if_neg (by omega)] at hr hnext hnext2
        refine G1 (fs hm1 hm2) ?_; try with_reducible exact tt
        refine AW.cond rfl (fun h => ?_) (fun h => ?_)
        rotate_left
        · simp [hm1, hm2] at h
        refine G1 hand ?_; try with_reducible exact tt
        refine AW.cond rfl (fun h => ?_) (fun h => ?_)
        · simp at h
        refine G0 ?_; try with_reducible exact tt
        refine CallS.pu (hm2') (R1 hdv ?_); try with_reducible exact tt
        repeat (first | refine AW.seq ?_ | refine AW.block ?_ | (refine AW.reg mix ?_; simp -implicitDefEqProofs [hdv]; try simp (disch := omega) only [w64, wu64]) | (refine need.of (by first | omega | kernel_rfl) ?_) | (refine AW.fin ?_; try simp -implicitDefEqProofs [hdv]))
        (try (simp -implicitDefEqProofs [hdv]; try simp (disch := omega) only [w64, wu64]))
        repeat (first | refine AW.seq ?_ | refine AW.block ?_ | (refine AW.reg mix ?_; simp -implicitDefEqProofs [hdv]; try simp (disch := omega) only [w64, wu64]) | (refine need.of (by first | omega | kernel_rfl) ?_) | (refine AW.fin ?_; try simp -implicitDefEqProofs [hdv]))
        exact ⟨hm, _, _, ⟨by omega, hr, hnext2, hnext⟩, hlt2, by simp, Subs.refl _, Subs.refl _⟩
      · rw [h2] at hand hr hnext hnext2
        rw [if_pos rfl] at hr hnext hnext2
        refine G1 (fs hm1 hm2) ?_; try with_reducible exact tt
        refine AW.cond rfl (fun h => ?_) (fun h => ?_)
        rotate_left
        · simp [hm1, hm2] at h
        refine G1 hand ?_; try with_reducible exact tt
        refine AW.cond rfl (fun h => ?_) (fun h => ?_)
        rotate_left
        · simp at h
        refine G0 ?_; try with_reducible exact tt
        refine CallS.pu (hm1') (R0 ?_); try with_reducible exact tt
        refine CallS.pu (hm2') (R1 hdv ?_); try with_reducible exact tt
        repeat (first | refine AW.seq ?_ | refine AW.block ?_ | (refine AW.reg mix ?_; simp -implicitDefEqProofs [hdv]; try simp (disch := omega) only [w64, wu64]) | (refine need.of (by first | omega | kernel_rfl) ?_) | (refine AW.fin ?_; try simp -implicitDefEqProofs [hdv]))
        (try (simp -implicitDefEqProofs [hdv]; try simp (disch := omega) only [w64, wu64]))
        repeat (first | refine AW.seq ?_ | refine AW.block ?_ | (refine AW.reg mix ?_; simp -implicitDefEqProofs [hdv]; try simp (disch := omega) only [w64, wu64]) | (refine need.of (by first | omega | kernel_rfl) ?_) | (refine AW.fin ?_; try simp -implicitDefEqProofs [hdv]))
        exact ⟨hm, _, _, ⟨by omega, hr, hnext2, hnext⟩, hlt2, by simp, Subs.refl _, Subs.refl _⟩
  · rw [if_neg h1] at hn'
    rw [hn'] at hn2
    clear hn' n'
    have hq1 : (1 : Int) < q := by omega
    have hq1n : 1 < q := by omega
    have hq2 : ¬ (q : Int) ≤ 1 := by omega
    have hq0 : (q : Int) ≠ 0 := by omega
    have hle : n ≤ 8192 / q := hb.resolve_left h1
    have hdq : IntKind.i64.wrap ((8192 : Int).tdiv q) = ((8192 / q : Nat) : Int) := by
      rw [show (8192 : Int).tdiv q = ((8192 / q : Nat) : Int) from rfl, w64 (by omega) (by have := Nat.div_le_self 8192 q; omega)]
    have ha1 : 1 ≤ a := by
      rcases Nat.eq_zero_or_pos a with rfl | h
      · exfalso
        have : bitsN 0 ≤ 0 := bitsN_le (by decide)
        omega
      · exact h
    have hn8 : n ≤ 8192 := hn
    have hn1 : 1 < n → 1 ≤ a ∧ 1 ≤ 1 := fun _ => ⟨ha1, by omega⟩
    generalize 8192 / q = dq at *
    have hle2 : ¬ (dq : Int) < n := by omega
    have hle3 : ¬ dq < n := by omega
    have hn' : True := trivial
    refine G1 hn0 ?_; try with_reducible exact tt
    refine AW.cond rfl (fun h => ?_) (fun h => ?_)
    · simp [hn0] at h
    refine G0 ?_; try with_reducible exact tt
    refine CallS.pu (hbits) (R1 (fs hq1 hq1n) ?_); try with_reducible exact tt
    refine CallS.pu (hbits) (R1 (fs hq0 (fs hdq (fs hle2 (fs hle3 (fs hq1 hq1n))))) ?_); try with_reducible exact tt
    refine AW.cond rfl (fun h => ?_) (fun h => ?_)
    · simp [hle2, hle3] at h
    refine AW.skip ?_
    simp
    refine G0 ?_; try with_reducible exact tt
    refine CallS.pf 2 1 ⟨55, _⟩ [.int .u64 (1 : Nat)] (hof) (by first | rfl | (simp; done)) (R0 ?_); try with_reducible exact tt
    refine CallS.pu (hbits) (R1 (fs hq2 h1) ?_); try with_reducible exact tt
    refine AW.cond rfl (fun h => ?_) (fun h => ?_)
    · simp [hq2, h1] at h
    refine AW.skip ?_
    simp
    refine G0 ?_; try with_reducible exact tt
    refine AW.loopT (α := Nat × Nat × Nat) 4 (fun s => [(1, .d (.int .i64 (s.1 : Nat)))]) (fun s => [(0, ⟨25, [.d (natW s.2.1)]⟩), (3, ⟨25, [.d (natW s.2.2)]⟩)]) (fun s => s.1 ≤ 8192 ∧ s.2.2 * s.2.1 ^ s.1 = T ∧ (0 < s.1 → size s.2.1 ≤ 200 ∧ size s.2.2 ≤ 200) ∧ (1 < s.1 → 1 ≤ s.2.1 ∧ 1 ≤ s.2.2)) (fun s => s.1) (n, a, 1) ?_ ?_ ⟨hn8, by rw [Nat.one_mul]; exact hn2, fun _ => ⟨Nat.le_trans has (by omega), Nat.le_trans (size_one (x := 1) (by omega)) (by omega)⟩, hn1⟩ ?_ ?_ ?_
    · simp
    · simp
    · simp
    · simp
    clear hn8 hn1 hn2 hn'
    rintro ⟨m, x, r⟩ ⟨hm8, hT2, hsz, hpos⟩
    simp only at hm8 hT2 hsz hpos
    simp
    by_cases hm0 : m = 0
    · subst hm0
      rw [Nat.pow_zero, Nat.mul_one] at hT2
      subst hT2
      refine G0 ?_; try with_reducible exact tt
      refine AW.cond rfl (fun h => ?_) (fun h => ?_)
      · simp at h
      refine AW.exit ?_
      (try (simp -implicitDefEqProofs; try simp (disch := omega) only [w64, wu64]))
      refine G0 ?_; try with_reducible exact tt
    · have hm1 : (0 : Int) < m := by omega
      have hm2 : 0 < m := by omega
      obtain ⟨sx, sr⟩ := hsz hm2
      have hand := and1_i64 m (by omega)
      have hm1' := mul_ok r x (by omega) (by omega)
      have hm2' := mul_ok x x (by omega) (by omega)
      have hdv : (m : Int) / 2 = ((m / 2 : Nat) : Int) := rfl
      have hr := pow_round hT2
      have hnext : (1 < m / 2 → 1 ≤ x * x ∧ 1 ≤ (if m % 2 = 1 then r * x else r)) := fun h => by
        obtain ⟨p1, p2⟩ := hpos (by omega)
        refine ⟨Nat.mul_pos p1 p1, ?_⟩
        split
        · exact Nat.mul_pos p2 p1
        · exact p2
      have hnext2 : (0 < m / 2 → size (x * x) ≤ 200 ∧ size (if m % 2 = 1 then r * x else r) ≤ 200) := fun h => by
        obtain ⟨p1, p2⟩ := hpos (by omega)
        have q1 : 1 ≤ x * x := Nat.mul_pos p1 p1
        have q2 : 1 ≤ (if m % 2 = 1 then r * x else r) := by
          split
          · exact Nat.mul_pos p2 p1
          · exact p2
        obtain ⟨k1, k2⟩ := pow_le_of hr h q1 q2
        exact ⟨Nat.le_trans (size_le k1) (by omega), Nat.le_trans (size_le k2) (by omega)⟩
      have hlt2 : m / 2 < m := by omega
      generalize m / 2 = hm at *
      rcases Nat.mod_two_eq_zero_or_one m with h2 | h2
      · rw [h2] at hand hr hnext hnext2
        rw [if_neg (by omega)] at hr hnext hnext2
        refine G1 (fs hm1 hm2) ?_; try with_reducible exact tt
        refine AW.cond rfl (fun h => ?_) (fun h => ?_)
        rotate_left
        · simp [hm1, hm2] at h
        refine G1 hand ?_; try with_reducible exact tt
        refine AW.cond rfl (fun h => ?_) (fun h => ?_)
        · simp at h
        refine G0 ?_; try with_reducible exact tt
        refine CallS.pu (hm2') (R1 hdv ?_); try with_reducible exact tt
        repeat (first | refine AW.seq ?_ | refine AW.block ?_ | (refine AW.reg mix ?_; simp -implicitDefEqProofs [hdv]; try simp (disch := omega) only [w64, wu64]) | (refine need.of (by first | omega | kernel_rfl) ?_) | (refine AW.fin ?_; try simp -implicitDefEqProofs [hdv]))
        (try (simp -implicitDefEqProofs [hdv]; try simp (disch := omega) only [w64, wu64]))
        repeat (first | refine AW.seq ?_ | refine AW.block ?_ | (refine AW.reg mix ?_; simp -implicitDefEqProofs [hdv]; try simp (disch := omega) only [w64, wu64]) | (refine need.of (by first | omega | kernel_rfl) ?_) | (refine AW.fin ?_; try simp -implicitDefEqProofs [hdv]))
        exact ⟨hm, _, _, ⟨by omega, hr, hnext2, hnext⟩, hlt2, by simp, Subs.refl _, Subs.refl _⟩
      · rw [h2] at hand hr hnext hnext2
        rw [if_pos rfl] at hr hnext hnext2
        refine G1 (fs hm1 hm2) ?_; try with_reducible exact tt
        refine AW.cond rfl (fun h => ?_) (fun h => ?_)
        rotate_left
        · simp [hm1, hm2] at h
        refine G1 hand ?_; try with_reducible exact tt
        refine AW.cond rfl (fun h => ?_) (fun h => ?_)
        rotate_left
        · simp at h
        refine G0 ?_; try with_reducible exact tt
        refine CallS.pu (hm1') (R0 ?_); try with_reducible exact tt
        refine CallS.pu (hm2') (R1 hdv ?_); try with_reducible exact tt
        repeat (first | refine AW.seq ?_ | refine AW.block ?_ | (refine AW.reg mix ?_; simp -implicitDefEqProofs [hdv]; try simp (disch := omega) only [w64, wu64]) | (refine need.of (by first | omega | kernel_rfl) ?_) | (refine AW.fin ?_; try simp -implicitDefEqProofs [hdv]))
        (try (simp -implicitDefEqProofs [hdv]; try simp (disch := omega) only [w64, wu64]))
        repeat (first | refine AW.seq ?_ | refine AW.block ?_ | (refine AW.reg mix ?_; simp -implicitDefEqProofs [hdv]; try simp (disch := omega) only [w64, wu64]) | (refine need.of (by first | omega | kernel_rfl) ?_) | (refine AW.fin ?_; try simp -implicitDefEqProofs [hdv]))
        exact ⟨hm, _, _, ⟨by omega, hr, hnext2, hnext⟩, hlt2, by simp, Subs.refl _, Subs.refl _⟩
end
end Go.Proofs.YtbgkkhbgaicmmaaDoor.Am
namespace Go.Proofs.YtbgkkhbgaicmmaaDoor.Am
section
open Go.RowKit
def lit1 : ByteArray := ⟨#[48, 49, 50, 51, 52, 53, 54, 55, 56, 57, 97, 98, 99, 100, 101, 102, 103, 104, 105, 106, 107, 108, 109, 110, 111, 112, 113, 114, 115, 116, 117, 118, 119, 120, 121, 122]⟩
def lit2 : ByteArray := ⟨#[48, 48, 48, 49, 48, 50, 48, 51, 48, 52, 48, 53, 48, 54, 48, 55, 48, 56, 48, 57, 49, 48, 49, 49, 49, 50, 49, 51, 49, 52, 49, 53, 49, 54, 49, 55, 49, 56, 49, 57, 50, 48, 50, 49, 50, 50, 50, 51, 50, 52, 50, 53, 50, 54, 50, 55, 50, 56, 50, 57, 51, 48, 51, 49, 51, 50, 51, 51, 51, 52, 51, 53, 51, 54, 51, 55, 51, 56, 51, 57, 52, 48, 52, 49, 52, 50, 52, 51, 52, 52, 52, 53, 52, 54, 52, 55, 52, 56, 52, 57, 53, 48, 53, 49, 53, 50, 53, 51, 53, 52, 53, 53, 53, 54, 53, 55, 53, 56, 53, 57, 54, 48, 54, 49, 54, 50, 54, 51, 54, 52, 54, 53, 54, 54, 54, 55, 54, 56, 54, 57, 55, 48, 55, 49, 55, 50, 55, 51, 55, 52, 55, 53, 55, 54, 55, 55, 55, 56, 55, 57, 56, 48, 56, 49, 56, 50, 56, 51, 56, 52, 56, 53, 56, 54, 56, 55, 56, 56, 56, 57, 57, 48, 57, 49, 57, 50, 57, 51, 57, 52, 57, 53, 57, 54, 57, 55, 57, 56, 57, 57]⟩
theorem lit1_size : lit1.size = 36 := by kernel_rfl
theorem lit2_size : lit2.size = 200 := by kernel_rfl
/-- the text of a number below 100 -/
def smallS (n : Nat) : ByteArray := if n < 10 then lit1.extract n (n + 1) else lit2.extract (n * 2) (n * 2 + 2)

theorem small_ok (n : Nat) (h : n < 100) : Eqn Tryd.prog n_internal_strconv_small [.d (.int .i64 n)] [] (.d (.str (smallS n))) [] := by
  refine Eqn.pure r_internal_strconv_small (plain_d _) ?_
  simp only [c_internal_strconv_small]
  rw [show (⟨#[48, 49, 50, 51, 52, 53, 54, 55, 56, 57, 97, 98, 99, 100, 101, 102, 103, 104, 105, 106, 107, 108, 109, 110, 111, 112, 113, 114, 115, 116, 117, 118, 119, 120, 121, 122]⟩ : ByteArray) = lit1 from rfl, show (⟨#[48, 48, 48, 49, 48, 50, 48, 51, 48, 52, 48, 53, 48, 54, 48, 55, 48, 56, 48, 57, 49, 48, 49, 49, 49, 50, 49, 51, 49, 52, 49, 53, 49, 54, 49, 55, 49, 56, 49, 57, 50, 48, 50, 49, 50, 50, 50, 51, 50, 52, 50, 53, 50, 54, 50, 55, 50, 56, 50, 57, 51, 48, 51, 49, 51, 50, 51, 51, 51, 52, 51, 53, 51, 54, 51, 55, 51, 56, 51, 57, 52, 48, 52, 49, 52, 50, 52, 51, 52, 52, 52, 53, 52, 54, 52, 55, 52, 56, 52, 57, 53, 48, 53, 49, 53, 50, 53, 51, 53, 52, 53, 53, 53, 54, 53, 55, 53, 56, 53, 57, 54, 48, 54, 49, 54, 50, 54, 51, 54, 52, 54, 53, 54, 54, 54, 55, 54, 56, 54, 57, 55, 48, 55, 49, 55, 50, 55, 51, 55, 52, 55, 53, 55, 54, 55, 55, 55, 56, 55, 57, 56, 48, 56, 49, 56, 50, 56, 51, 56, 52, 56, 53, 56, 54, 56, 55, 56, 56, 56, 57, 57, 48, 57, 49, 57, 50, 57, 51, 57, 52, 57, 53, 57, 54, 57, 55, 57, 56, 57, 57]⟩ : ByteArray) = lit2 from rfl]
  have e1 := lit1_size
  have e2 := lit2_size
  generalize hl1 : lit1 = l1 at *
  generalize hl2 : lit2 = l2 at *
  by_cases hs : n < 10
  · have hs' : (n : Int) < 10 := by omega
    refine G1 hs' ?_; try with_reducible exact tt
    refine AW.cond rfl (fun h => ?_) (fun h => ?_)
    · have ew : IntKind.i64.wrap ((n : Int) + 1) = (n : Int) + 1 := w64 (by omega) (by omega)
      refine G1 (fs ew e1) ?_; try with_reducible exact tt
      refine Sub1.of ?_
      rw [smallS, if_pos hs, hl1]
    · simp [hs] at h
  · have hs' : ¬ (n : Int) < 10 := by omega
    refine G1 hs' ?_; try with_reducible exact tt
    refine AW.cond rfl (fun h => ?_) (fun h => ?_)
    · simp [hs] at h
    · have ew : IntKind.i64.wrap ((n : Int) * 2) = (n : Int) * 2 := w64 (by omega) (by omega)
      have ew2 : IntKind.i64.wrap ((n : Int) * 2 + 2) = (n : Int) * 2 + 2 := w64 (by omega) (by omega)
      refine G1 (fs ew (fs ew2 e2)) ?_; try with_reducible exact tt
      refine Sub1.of ?_
      rw [smallS, if_neg hs, hl2, show ((n : Int) * 2).toNat = n * 2 by omega, show ((n : Int) * 2 + 2).toNat = n * 2 + 2 by omega]

theorem smallS_size (n : Nat) : (smallS n).size ≤ 2 := by
  unfold smallS
  split <;> rw [ByteArray.size_extract] <;> omega
@[simp] theorem size_nil : ByteArray.size ⟨#[]⟩ = 0 := rfl
@[simp] theorem size_47 : ByteArray.size ⟨#[47]⟩ = 1 := rfl
theorem app_nil (s : ByteArray) : s ++ (⟨#[]⟩ : ByteArray) = s := by
  exact ByteArray.append_empty
theorem ifmt_ok (n : Nat) (h : n < 100) : Eqn Tryd.prog n_internal_strconv_FormatUint [.d (.int .u64 n), .d (.int .i64 10)] [] (.d (.str (smallS n))) [] := by
  refine Eqn.pure r_internal_strconv_FormatUint (plain_d _) ?_
  simp only [c_internal_strconv_FormatUint]
  have h1 : (n : Int) < 100 := by omega
  refine G1 h1 ?_; try with_reducible exact tt
  refine AW.cond rfl (fun h => ?_) (fun h => ?_)
  · refine G1 h1 ?_; try with_reducible exact tt
    refine AW.cond rfl (fun h => ?_) (fun h => ?_)
    · have e : IntKind.i64.wrap (n : Int) = n := w64 (by omega) (by omega)
      refine G1 e ?_; try with_reducible exact tt
      refine CallS.pu (small_ok n (by omega)) (R0 ?_); try with_reducible exact tt
    · simp [h1] at h
  · simp at h

theorem fmt_ok (n : Nat) (h : n < 100) : Eqn Tryd.prog n_strconv_FormatUint [.d (.int .u64 n), .d (.int .i64 10)] [] (.d (.str (smallS n))) [] := by
  refine Eqn.pure r_strconv_FormatUint (plain_d _) ?_
  simp only [c_strconv_FormatUint]
  refine G0 ?_; try with_reducible exact tt
  refine CallS.pu (ifmt_ok n h) (R0 ?_); try with_reducible exact tt

theorem text_ok (n : Nat) (h : n < 100) : Eqn Tryd.prog n_nat_Nat_Text [.d (.agg [natW n])] [] (.d (.str (smallS n))) [] := by
  refine Eqn.pure r_nat_Nat_Text (plain_d _) ?_
  simp only [c_nat_Nat_Text]
  refine G0 ?_; try with_reducible exact tt
  refine CallS.pu (zero_ok n) (R0 ?_); try with_reducible exact tt
  rcases Nat.eq_zero_or_pos n with rfl | h0
  · refine AW.cond rfl (fun h => ?_) (fun h => ?_)
    · refine G0 ?_; try with_reducible exact tt
      exact Sub1.of (by kernel_rfl)
    · simp at h
  have e : natW n = .sl 1 [.int .u64 n] := by rw [natW, words_one h0 (by omega)]; rfl
  have hz : ¬ n = 0 := by omega
  refine AW.cond rfl (fun h => ?_) (fun h => ?_)
  · simp [hz] at h
  refine G1 e ?_; try with_reducible exact tt
  refine AW.loopT (α := Nat) 1 (fun i => [(4, .d (if i = 0 then .sl 0 [] else .sl 1 [.int .u64 n])), (3, .d (if i = 0 then .str (smallS n) else .str ⟨#[]⟩))]) (fun i => []) (fun i => i ≤ 1) (fun i => i) 1 ?_ ?_ (Nat.le_refl _) ?_ ?_ ?_
  · simp
  · simp
  · simp
  · simp
  rintro i hi
  simp
  cases i with
  | zero =>
    refine G0 ?_; try with_reducible exact tt
    refine AW.cond rfl (fun h => ?_) (fun h => ?_)
    · simp at h
    refine G0 ?_; try with_reducible exact tt
  | succ i =>
    obtain rfl : i = 0 := by omega
    refine G0 ?_; try with_reducible exact tt
    refine AW.cond rfl (fun h => ?_) (fun h => ?_)
    · refine G0 ?_; try with_reducible exact tt
      have hs := split_one n 1000000000000000000 (by omega) (by omega) (by omega)
      rw [show n / 1000000000000000000 = 0 by omega, show n % 1000000000000000000 = n by omega] at hs
      refine CallS.pu (hs) (R0 ?_); try with_reducible exact tt
      have ht := trimmed_ok [0] (small_one (by omega)) (by simp)
      rw [show wval [0] = 0 by rfl] at ht
      refine CallS.pu (ht) (R0 ?_); try with_reducible exact tt
      refine CallS.pu (fmt_ok n (by omega)) ?_
      (try (simp -implicitDefEqProofs [natW_zero]; try simp (disch := omega) only [w64, wu64]))
      repeat (first | refine AW.seq ?_ | refine AW.block ?_ | (refine AW.reg mix ?_; simp -implicitDefEqProofs [natW_zero]; try simp (disch := omega) only [w64, wu64]) | (refine need.of (by first | omega | kernel_rfl) ?_) | (refine AW.fin ?_; try simp -implicitDefEqProofs [natW_zero]))
      refine AW.cond rfl (fun h => ?_) (fun h => ?_)
      · simp at h
      have s1 := smallS_size n
      have sn := app_nil (smallS n)
      repeat (first | refine AW.seq ?_ | refine AW.block ?_ | (refine AW.reg mix ?_; simp -implicitDefEqProofs [natW_zero, sn]; try simp (disch := omega) only [w64, wu64]) | (refine need.of (by first | omega | kernel_rfl) ?_) | (refine AW.fin ?_; try simp -implicitDefEqProofs [natW_zero, sn]))
      exact ⟨0, by omega, rfl, by simp [sn], by simp⟩
    · simp at h

theorem wtext_ok (n : Nat) (h : n < 100) : Eqn Tryd.prog n_whole_Whole_Text [.d (.agg [natW n, .bool false])] [] (.d (.str (smallS n))) [] := by
  refine Eqn.pure r_whole_Whole_Text (plain_d _) ?_
  simp only [c_whole_Whole_Text]
  refine G0 ?_; try with_reducible exact tt
  refine AW.cond rfl (fun h => ?_) (fun h => ?_)
  · simp at h
  refine G0 ?_; try with_reducible exact tt
  refine CallS.pu (text_ok n (by omega)) (R0 ?_); try with_reducible exact tt

theorem rtext_ok (n d : Nat) (h : n < 100) (hd : d + 1 < 100) (h0 : d ≠ 0) : Eqn Tryd.prog n_rat_Rat_Text [.d (.agg [natW n, .bool false, natW d])] [] (.d (.str (smallS n ++ ⟨#[47]⟩ ++ smallS (d + 1)))) [] := by
  refine Eqn.pure r_rat_Rat_Text (plain_d _) ?_
  simp only [c_rat_Rat_Text]
  have s1 := smallS_size n
  have s2 := smallS_size (d + 1)
  refine G0 ?_; try with_reducible exact tt
  refine CallS.pu (rwhole_ok n d false) (R0 ?_); try with_reducible exact tt
  refine AW.cond rfl (fun h => ?_) (fun h => ?_)
  · simp [h0] at h
  refine G0 ?_; try with_reducible exact tt
  refine CallS.pu (wtext_ok n (by omega)) (R0 ?_); try with_reducible exact tt
  refine CallS.pu (rden_ok n d false (by have := size_one (x := d) (by omega); omega)) (R0 ?_); try with_reducible exact tt
  refine CallS.pu (text_ok (d + 1) hd) (R0 ?_); try with_reducible exact tt
end
end Go.Proofs.YtbgkkhbgaicmmaaDoor.Am
namespace Go.Proofs.YtbgkkhbgaicmmaaDoor.Am
section
open Go.RowKit
/-- coins, as data -/
def BL (cs : List Bool) : D := .sl cs.length (cs.map .bool)
/-- a tape: where it is, is it dead, its coins -/
abbrev tapeO (cs : List Bool) (p : Nat) (dead : Bool) : Ob := ⟨t_tape_Tape, [.d (.int .i64 p), .d (.bool dead), .d (BL cs)]⟩

/-- a coin: is there one, which, and what the tape is then -/
def flipB (cs : List Bool) (p : Nat) (dead : Bool) : Bool := if dead ∨ p = cs.length then false else cs.getD p false
def flipE (cs : List Bool) (p : Nat) (dead : Bool) : Int := if dead ∨ p = cs.length then 8 else 0
def flipP (cs : List Bool) (p : Nat) (dead : Bool) : Nat := if dead ∨ p = cs.length then p else p + 1
def flipD (cs : List Bool) (p : Nat) (dead : Bool) : Bool := if dead ∨ p = cs.length then true else dead

/-- so many coins that are true -/
def halfR (cs : List Bool) : Nat → Nat → Bool → Bool × Int × Nat × Bool
  | 0, p, dd => (true, 0, p, dd)
  | k + 1, p, dd => if flipB cs p dd then halfR cs k (flipP cs p dd) (flipD cs p dd) else (false, flipE cs p dd, flipP cs p dd, flipD cs p dd)
end
end Go.Proofs.YtbgkkhbgaicmmaaDoor.Am
namespace Go.Proofs.YtbgkkhbgaicmmaaDoor.Am
section
open Go.RowKit
def okK (k : Int) : Bool := decide (0 ≤ k ∧ k ≤ 1023)
/-- what is wrong -/
def wrongZ (d : Int) (ks : List Int) : Int := if 0 ≤ d ∧ d ≤ 8 then (if ks.all okK then 0 else 2) else 10

/-- the second part of a place -/
def partV (d k : Nat) : Int := bits .and .i64 k (IntKind.i64.wrap (IntKind.i64.wrap (2 ^ d) - 1))
/-- what a step at another place is here -/
def againR (cs : List Bool) (d k j : Int) : Bool × Int × Nat × Bool := if wrongZ d [k, j] = 0 then halfR cs (k.toNat / 2 ^ d.toNat - j.toNat / 2 ^ d.toNat) 0 false else (false, wrongZ d [k, j], 0, false)

/-- a step at a place -/
def stepR (cs : List Bool) (d k : Int) : Bool × Int × Nat × Bool := if wrongZ d [k] = 0 then halfR cs (k.toNat / 2 ^ d.toNat) 0 false else (false, wrongZ d [k], 0, false)
end
end Go.Proofs.YtbgkkhbgaicmmaaDoor.Am
namespace Go.Proofs.YtbgkkhbgaicmmaaDoor.Am
section
open Go.RowKit
/-- so many coins as it takes: p by q -/
def ratioR (cs : List Bool) (q : Nat) : Nat → Nat → Nat → Bool → Bool × Int × Nat × Bool
  | 0, _, p, dd => (true, 0, p, dd)
  | f + 1, r, p, dd =>
    if r < q then
      if flipE cs p dd = 0 then
        if flipB cs p dd ≠ decide (q ≤ r + r) ∨ (if q ≤ r + r then r + r - q else r + r) = 0 then (decide (q ≤ r + r) && !flipB cs p dd, 0, flipP cs p dd, flipD cs p dd)
        else ratioR cs q f (if q ≤ r + r then r + r - q else r + r) (flipP cs p dd) (flipD cs p dd)
      else (false, flipE cs p dd, flipP cs p dd, flipD cs p dd)
    else (true, 0, p, dd)
/-- of p by q -/
def ratioA (cs : List Bool) (a q : Nat) (p : Nat) (dd : Bool) : Bool × Int × Nat × Bool := if a = 0 then (false, 0, p, dd) else ratioR cs q (cs.length + 1 - p) a p dd
end
end Go.Proofs.YtbgkkhbgaicmmaaDoor.Am
namespace Go.Proofs.YtbgkkhbgaicmmaaDoor.Am
section
open Go.RowKit
/-- so many of these -/
def powerR (cs : List Bool) (a q : Nat) : Nat → Nat → Bool → Bool × Int × Nat × Bool
  | 0, p, dd => (true, 0, p, dd)
  | k + 1, p, dd => if (ratioA cs a q p dd).1 then powerR cs a q k (ratioA cs a q p dd).2.2.1 (ratioA cs a q p dd).2.2.2 else ratioA cs a q p dd
end
end Go.Proofs.YtbgkkhbgaicmmaaDoor.Am
namespace Go.Proofs.YtbgkkhbgaicmmaaDoor.Am
section
open Go.RowKit
theorem mgood_ok (d : Int) : Eqn Tryd.prog n_morris_Good [.d (.int .i64 d)] [] (.d (.bool (decide (1 ≤ d ∧ d ≤ 4096)))) [] := by
  refine Eqn.pure r_morris_Good (plain_d _) ?_
  simp only [c_morris_Good]
  by_cases h : 1 ≤ d
  · refine G1 h ?_; try with_reducible exact tt
  · refine G1 h ?_; try with_reducible exact tt

/-- what is wrong -/
def wrongM (d : Int) (ks : List Int) : Int := if 1 ≤ d ∧ d ≤ 4096 then (if ks.all okK then 0 else 2) else 10

theorem mwrong_ok (d : Int) (ks : List Int) (hn : ks.length ≤ 1000000) : Eqn Tryd.prog n_morris_wrong [.d (.int .i64 d), .d (.sl ks.length (ks.map fun k : Int => .int .i64 k))] [] (.d (.int .i64 (wrongM d ks))) [] := by
  refine Eqn.pure r_morris_wrong (plain_d _) ?_
  simp only [c_morris_wrong]
  refine G0 ?_; try with_reducible exact tt
  refine CallS.pu (mgood_ok d) (R0 ?_); try with_reducible exact tt
  by_cases hd : 1 ≤ d ∧ d ≤ 4096
  · refine AW.cond rfl (fun h => ?_) (fun h => ?_)
    · simp [hd] at h
    refine G0 ?_; try with_reducible exact tt
    refine AW.loopT (α := Nat) 0 (fun i => [(12, .d (.int .i64 (i : Int)))]) (fun i => []) (fun i => i ≤ ks.length ∧ (ks.take i).all okK = true) (fun i => ks.length - i) 0 ?_ ?_ ⟨Nat.zero_le _, by simp⟩ ?_ ?_ ?_
    · simp
    · simp
    · simp
    · simp
    rintro i ⟨hi, hall⟩
    simp
    by_cases h : i = ks.length
    · subst h
      rw [List.take_length] at hall
      refine G0 ?_; try with_reducible exact tt
      refine AW.cond rfl (fun h => ?_) (fun h => ?_)
      · simp at h
      refine G0 ?_; try with_reducible exact tt
      refine Sub1.int ?_
      rw [wrongM, if_pos hd, if_pos hall]
    · have hi' : i < ks.length := by omega
      have hp : (i : Int) < ks.length := by omega
      refine G1 (fs hi' hp) ?_; try with_reducible exact tt
      refine AW.cond rfl (fun h => ?_) (fun h => ?_)
      · have hbad : okK ks[i] = false → wrongM d ks = 2 := by
          intro hb
          rw [wrongM, if_pos hd, if_neg]
          intro ha
          rw [List.all_eq_true] at ha
          have := ha ks[i] (List.getElem_mem _)
          rw [hb] at this; cases this
        by_cases h0 : ks[i] < 0
        · refine G1 (fs hi' (fs hp h0)) ?_; try with_reducible exact tt
          refine AW.cond rfl (fun h => ?_) (fun h => ?_)
          · refine G0 ?_; try with_reducible exact tt
            refine Sub1.int ?_
            rw [hbad (by simp [okK]; omega)]
          · simp [h0] at h
        · by_cases h1 : 1023 < ks[i]
          · refine G1 (fs hi' (fs hp (fs h0 h1))) ?_; try with_reducible exact tt
            refine AW.cond rfl (fun h => ?_) (fun h => ?_)
            · refine G0 ?_; try with_reducible exact tt
              refine Sub1.int ?_
              rw [hbad (by simp [okK]; omega)]
            · simp [h0, h1] at h
          · refine G1 (fs hi' (fs hp (fs h0 h1))) ?_; try with_reducible exact tt
            refine AW.cond rfl (fun h => ?_) (fun h => ?_)
            · simp [h0, h1] at h
            have ew : IntKind.i64.wrap ((i : Int) + 1) = (i : Int) + 1 := w64 (by omega) (by omega)
            refine G1 ew ?_; try with_reducible exact tt
            refine ⟨i + 1, ⟨by omega, ?_⟩, by omega, by simp⟩
            rw [List.take_add_one, List.getElem?_eq_getElem hi']
            intro x hx
            rcases List.mem_append.1 hx with hx | hx
            · exact List.all_eq_true.1 hall x hx
            · simp at hx
              subst hx
              simp [okK]; omega
      · simp [hi'] at h
  · refine AW.cond rfl (fun h => ?_) (fun h => ?_)
    · refine G0 ?_; try with_reducible exact tt
      refine Sub1.int ?_
      rw [wrongM, if_neg hd]
    · simp at h
      exact absurd h hd

theorem mwrong1_ok (d k : Int) : Eqn Tryd.prog n_morris_wrong [.d (.int .i64 d), .d (.sl 1 [.int .i64 k])] [] (.d (.int .i64 (wrongM d [k]))) [] := mwrong_ok d [k] (by simp)
/-- a step at a place -/
def stepM (cs : List Bool) (d k : Int) (p : Nat) (dd : Bool) : Bool × Int × Nat × Bool := if wrongM d [k] = 0 then powerR cs d.toNat (d.toNat + 1) k.toNat p dd else (false, wrongM d [k], p, dd)
end
end Go.Proofs.YtbgkkhbgaicmmaaDoor.Am
namespace Go.Proofs.YtbgkkhbgaicmmaaDoor.Am
section
open Go.RowKit
theorem rat_pow_mk (x : Rat) : ∀ n : Nat, x ^ n = mkRat (x.num ^ n) (x.den ^ n)
  | 0 => by rw [Rat.pow_zero, Int.pow_zero, Nat.pow_zero]; rfl
  | n + 1 => by
    rw [Rat.pow_succ, rat_pow_mk x n]
    conv => lhs; rhs; rw [← Rat.mkRat_self x]
    rw [Rat.mkRat_mul_mkRat, Int.pow_succ, Nat.pow_succ]

theorem rpow_rat (x : Rat) (n : Nat) (hx : 0 ≤ x.num) (hn : n ≤ 8192) (hb1 : bitsN x.num.natAbs ≤ 1 ∨ n ≤ 8192 / bitsN x.num.natAbs) (hb2 : bitsN x.den ≤ 1 ∨ n ≤ 8192 / bitsN x.den) (hs : RS x 129) (hs1 : size (x.num.natAbs ^ n) ≤ 130) (hs2 : size (x.den ^ n) ≤ 130) :
    Eqn Tryd.prog n_rat_Pow [.d (rD x), .d (.int .i64 n)] [] (.tup [.d (rD (x ^ n)), .d (.int .i64 0)]) [] := by
  refine Eqn.pure r_rat_Pow Plain.ok ?_
  have h1 := npow_ok x.num.natAbs n hn hb1 hs.1
  have h2 := npow_ok x.den n hn hb2 hs.2
  have h3 := rden_int x (by have := hs.2; omega)
  have hneg : decide (x.num < 0) = false := by rw [decide_eq_false_iff_not]; omega
  have hab := abs_ok x.num.natAbs (decide (x.num < 0))
  have hng := neg_ok x.num.natAbs (decide (x.num < 0))
  have h4 := wmake_int false (x.num.natAbs ^ n) (x.num ^ n) (by rw [if_neg (by simp), Int.natCast_pow, Int.natAbs_of_nonneg hx])
  have e : (x.num ^ n).natAbs = x.num.natAbs ^ n := Int.natAbs_pow _ _
  have h5 := made_int (x.num ^ n) (x.den ^ n) (Nat.pow_pos x.den_pos) (by rw [e]; omega) (by omega)
  rw [← rat_pow_mk] at h5
  simp only [c_rat_Pow, rD, hneg] at hab hng h3 h5 ⊢
  generalize hz : x.num ^ n = z at *
  simp only [wD] at h4 h5
  refine G0 ?_; try with_reducible exact tt
  refine CallS.pu (hab) (R0 ?_); try with_reducible exact tt
  refine CallS.pu (h1) (R0 ?_); try with_reducible exact tt
  refine AW.cond rfl (fun h => ?_) (fun h => ?_)
  · simp at h
  refine G0 ?_; try with_reducible exact tt
  refine CallS.pu (h3) (R0 ?_); try with_reducible exact tt
  refine CallS.pu (h2) (R0 ?_); try with_reducible exact tt
  refine AW.cond rfl (fun h => ?_) (fun h => ?_)
  · simp at h
  refine G0 ?_; try with_reducible exact tt
  refine CallS.pu (hng) (R0 ?_); try with_reducible exact tt
  refine CallS.pu (h4) (R0 ?_); try with_reducible exact tt
  refine CallS.pu (h5) (R0 ?_); try with_reducible exact tt

theorem rof_rat (n : Nat) (h : n < 9223372036854775808) : Eqn Tryd.prog n_rat_Of [.d (.int .i64 n)] [] (.d (rD (n : Rat))) [] := by
  refine Eqn.pure r_rat_Of (plain_d _) ?_
  have h1 := wholeOf_ok n h
  have e : rD (n : Rat) = .agg [natW n, .bool false, natW 0] := by
    unfold rD
    rw [Rat.num_natCast, Rat.den_natCast, Int.natAbs_natCast]
    congr 4
  rw [e]
  simp only [c_rat_Of]
  refine G0 ?_; try with_reducible exact tt
  refine CallS.pu (h1) (R0 ?_); try with_reducible exact tt
  exact Sub1.rat0

theorem rmake_rat (p q : Nat) (hp : p < 9223372036854775808) (hq : q < 9223372036854775808) (h0 : 0 < q) : Eqn Tryd.prog n_rat_Make [.d (.int .i64 p), .d (.int .i64 q)] [] (.tup [.d (rD (mkRat p q)), .d (.int .i64 0)]) [] := by
  have hfr : Eqn Tryd.prog n_rat_Frac [.d (.agg [natW p, .bool false]), .d (.agg [natW q, .bool false])] [] (.tup [.d (rD (mkRat p q)), .d (.int .i64 0)]) [] := by
    refine Eqn.pure r_rat_Frac Plain.ok ?_
    have ha := abs_ok q false
    have hp1 := abs_ok p false
    have hn1 := neg_ok p false
    have hn2 := neg_ok q false
    have hz := zero_ok q
    have hq0 : (q == 0) = false := by simp; omega
    rw [hq0] at hz
    have h4 := wmake_int false p (p : Int) rfl
    have h5 := made_int (p : Int) q h0 (by rw [Int.natAbs_natCast]; exact Nat.le_trans (size_one (by omega)) (by omega)) (Nat.le_trans (size_one (by omega)) (by omega))
    have e2 : wD (p : Int) = .agg [natW p, .bool false] := by
      unfold wD
      rw [Int.natAbs_natCast]
      congr 4
    rw [e2] at h4 h5
    simp only [c_rat_Frac, rD] at h5 ⊢
    refine G0 ?_; try with_reducible exact tt
    refine CallS.pu (ha) (R0 ?_); try with_reducible exact tt
    refine CallS.pu (hz) (R0 ?_); try with_reducible exact tt
    refine AW.cond rfl (fun h => ?_) (fun h => ?_)
    · simp at h
    refine G0 ?_; try with_reducible exact tt
    refine CallS.pu (hn1) (R0 ?_); try with_reducible exact tt
    refine CallS.pu (hn2) (R0 ?_); try with_reducible exact tt
    refine CallS.pu (hp1) (R0 ?_); try with_reducible exact tt
    refine CallS.pu (h4) (R0 ?_); try with_reducible exact tt
    refine CallS.pu (ha) (R0 ?_); try with_reducible exact tt
    refine CallS.pu (h5) (R0 ?_); try with_reducible exact tt
  refine Eqn.pure r_rat_Make Plain.ok ?_
  have h1 := wholeOf_ok p hp
  have h2 := wholeOf_ok q hq
  simp only [c_rat_Make, rD] at hfr ⊢
  refine G0 ?_; try with_reducible exact tt
  refine CallS.pu (h1) (R0 ?_); try with_reducible exact tt
  refine CallS.pu (h2) (R0 ?_); try with_reducible exact tt
  refine CallS.pu (hfr) (R0 ?_); try with_reducible exact tt
end
end Go.Proofs.YtbgkkhbgaicmmaaDoor.Am
namespace Go.Proofs.YtbgkkhbgaicmmaaDoor.Am
section
open Go.RowKit
def p2 (n : Nat) : Nat := 2 ^ n
/-- so many coins that are true, as the document tells it: is it, how many were taken, what is wrong -/
def halfO (cs : List Bool) : Nat → Nat → Bool × Nat × Int
  | 0, i => (true, i, 0)
  | r + 1, i => if i < cs.length then (if cs.getD i false then halfO cs r (i + 1) else (false, i + 1, 0)) else (false, i, 8)
end
end Go.Proofs.YtbgkkhbgaicmmaaDoor.Am
namespace Go.Proofs.YtbgkkhbgaicmmaaDoor.Am
section
open Go.RowKit
end
end Go.Proofs.YtbgkkhbgaicmmaaDoor.Am
namespace Go.Proofs.YtbgkkhbgaicmmaaDoor.Am
section
open Go.RowKit
theorem and_mask9 (k : Int) (m : Nat) (hm : m ≤ 4611686018427387904) : ∃ n : Nat, bits BinOp.and IntKind.i64 k (m : Int) = n ∧ n ≤ m := by
  refine ⟨(BitVec.ofInt 64 k).toNat &&& m, ?_, Nat.and_le_right⟩
  have hm' : m % 2 ^ 64 = m := Nat.mod_eq_of_lt (by omega)
  have hle : (BitVec.ofInt 64 k).toNat &&& m ≤ m := Nat.and_le_right
  show IntKind.i64.wrap (((BitVec.ofInt 64 k) &&& (BitVec.ofInt 64 (m : Int))).toNat : Int) = _
  rw [BitVec.toNat_and, BitVec.ofInt_natCast, BitVec.toNat_ofNat, hm']
  generalize (BitVec.ofInt 64 k).toNat &&& m = n at *
  exact w64 (by omega) (by omega)
end
end Go.Proofs.YtbgkkhbgaicmmaaDoor.Am
namespace Go.Proofs.YtbgkkhbgaicmmaaDoor.Am
section
open Go.RowKit
/-- what a Morris counter stands for -/
def valM (a k : Nat) : Rat := (a : Rat) * ((mkRat ((a + 1 : Nat) : Int) a) ^ k - ((1 : Nat) : Rat))

theorem step_frac {a : Nat} (ha : 1 ≤ a) : (mkRat ((a + 1 : Nat) : Int) a).num = ((a + 1 : Nat) : Int) ∧ (mkRat ((a + 1 : Nat) : Int) a).den = a := by
  obtain ⟨p1, p2, p3⟩ := mkRat_parts ((a + 1 : Nat) : Int) a (by omega)
  rw [Int.natAbs_natCast] at p1 p2
  have hg : Nat.gcd (a + 1) a = 1 := by
    rw [Nat.gcd_comm, Nat.gcd_rec, show (a + 1) % a = 1 % a by rw [Nat.add_mod_left], ← Nat.gcd_rec, Nat.gcd_one_right]
  rw [hg, Nat.div_one] at p1 p2
  refine ⟨?_, p2⟩
  have : ¬ (mkRat ((a + 1 : Nat) : Int) a).num < 0 := fun h => by have := p3.1 h; omega
  omega

theorem pow_size {x n : Nat} (h : bitsN x * n ≤ 8192) : size (x ^ n) ≤ 129 := by
  refine size_pow' (n := bitsN x * n + 1) ?_ (by omega)
  rw [Nat.pow_succ]
  have h3 : x ^ n ≤ (2 ^ bitsN x) ^ n := Nat.pow_le_pow_left (Nat.le_of_lt (lt_bitsN x)) n
  rw [← Nat.pow_mul] at h3
  have := Nat.two_pow_pos (bitsN x * n)
  omega

theorem mvalue_ok (a k : Nat) (h1 : 1 ≤ a) (h2 : a ≤ 4096) (hk : k ≤ 1023) (hb : bitsN (a + 1) * k ≤ 8192) : Eqn Tryd.prog n_morris_Value [.d (.int .i64 a), .d (.int .i64 k)] [] (.tup [.d (rD (valM a k)), .d (.int .i64 0)]) [] ∧ RS (valM a k) 300 := by
  obtain ⟨q1, q2⟩ := step_frac h1
  have hmk := rmake_rat (a + 1) a (by omega) (by omega) (by omega)
  obtain ⟨x, hx⟩ : ∃ x, x = mkRat ((a + 1 : Nat) : Int) a := ⟨_, rfl⟩
  have hv : valM a k = (a : Rat) * (x ^ k - ((1 : Nat) : Rat)) := by rw [hx]; rfl
  rw [← hx] at q1 q2 hmk
  have hba : bitsN a ≤ bitsN (a + 1) := bitsN_le (Nat.lt_trans (Nat.lt_succ_self a) (lt_bitsN _))
  have hb2 : bitsN a * k ≤ 8192 := Nat.le_trans (Nat.mul_le_mul_right _ hba) hb
  have le8 : ∀ q : Nat, q * k ≤ 8192 → q ≤ 1 ∨ k ≤ 8192 / q := fun q h => by
    by_cases h1 : q ≤ 1
    · exact .inl h1
    · right; rw [Nat.le_div_iff_mul_le (by omega), Nat.mul_comm]; exact h
  have hxs : RS x 129 := ⟨by rw [q1, Int.natAbs_natCast]; exact Nat.le_trans (size_one (by omega)) (by omega), by rw [q2]; exact Nat.le_trans (size_one (by omega)) (by omega)⟩
  have hpow := rpow_rat x k (by omega) (by omega) (by rw [q1, Int.natAbs_natCast]; exact le8 _ hb) (by rw [q2]; exact le8 _ hb2) hxs (by rw [q1, Int.natAbs_natCast]; exact Nat.le_trans (pow_size hb) (by omega)) (by rw [q2]; exact Nat.le_trans (pow_size hb2) (by omega))
  have hps : RS (x ^ k) 129 := ⟨by rw [Rat.num_pow, Int.natAbs_pow, q1, Int.natAbs_natCast]; exact pow_size hb, by rw [Rat.den_pow, q2]; exact pow_size hb2⟩
  have h1s : RS ((1 : Nat) : Rat) 1 := ⟨by rw [Rat.num_natCast]; exact size_one (by omega), by rw [Rat.den_natCast]; exact size_one (by omega)⟩
  have has : RS (a : Rat) 1 := ⟨by rw [Rat.num_natCast, Int.natAbs_natCast]; exact size_one (by omega), by rw [Rat.den_natCast]; exact size_one (by omega)⟩
  have hsub := rsub_rat (x ^ k) ((1 : Nat) : Rat) (hps.le (by omega)) (h1s.le (by omega))
  have hss := RS.sub hps h1s
  have hmul := rmul_int (a : Rat) (x ^ k - ((1 : Nat) : Rat)) (has.le (by omega)) (hss.le (by omega))
  refine ⟨?_, by rw [hv]; exact (RS.mul has hss).le (by omega)⟩
  have hoa := rof_rat a (by omega)
  have ho1 := rof_rat 1 (by omega)
  have hw := mwrong1_ok a k
  rw [show wrongM (a : Int) [(k : Int)] = 0 by unfold wrongM; rw [if_pos (by omega), if_pos (by simp [okK]; omega)]] at hw
  have e1 : IntKind.i64.wrap ((a : Int) + 1) = ((a + 1 : Nat) : Int) := by rw [w64 (by omega) (by omega)]; omega
  refine Eqn.pure r_morris_Value Plain.ok ?_
  rw [hv]
  clear hv hxs hps h1s has hss q1 q2 hx
  generalize x ^ k - ((1 : Nat) : Rat) = xd at *
  generalize x ^ k = xk at *
  generalize (a : Rat) * xd = v at *
  generalize (a : Rat) = aq at *
  generalize ((1 : Nat) : Rat) = oq at *
  generalize ha1 : a + 1 = a' at *
  simp only [c_morris_Value, rD] at hmk hpow hsub hmul hoa ho1 ⊢
  refine G0 ?_; try with_reducible exact tt
  refine CallS.pf 1 1 ⟨3, _⟩ [.int .i64 k] (hw) (by first | rfl | (simp [e1]; done)) (R1 e1 ?_); try with_reducible exact tt
  refine AW.cond rfl (fun h => ?_) (fun h => ?_)
  · simp at h
  refine G1 e1 ?_; try with_reducible exact tt
  refine CallS.pu (hmk) (R0 ?_); try with_reducible exact tt
  refine CallS.pu (hpow) (R0 ?_); try with_reducible exact tt
  refine AW.cond rfl (fun h => ?_) (fun h => ?_)
  · simp at h
  refine G0 ?_; try with_reducible exact tt
  refine CallS.pu (hoa) (R0 ?_); try with_reducible exact tt
  refine CallS.pu (ho1) (R0 ?_); try with_reducible exact tt
  refine CallS.pu (hsub) (R0 ?_); try with_reducible exact tt
  refine CallS.pu (hmul) (R0 ?_); try with_reducible exact tt
end
end Go.Proofs.YtbgkkhbgaicmmaaDoor.Am
namespace Go.Proofs.YtbgkkhbgaicmmaaDoor.Am
section
open Go.RowKit
/-- a Morris counter's chance -/
def chM (a k : Nat) : Rat := mkRat (a : Int) (a + 1) ^ k
theorem step_frac2 {a : Nat} : (mkRat (a : Int) (a + 1)).num = (a : Int) ∧ (mkRat (a : Int) (a + 1)).den = a + 1 := by
  obtain ⟨p1, p2, p3⟩ := mkRat_parts (a : Int) (a + 1) (by omega)
  rw [Int.natAbs_natCast] at p1 p2
  have hg : Nat.gcd a (a + 1) = 1 := by
    rcases Nat.eq_zero_or_pos a with rfl | h
    · rfl
    · rw [Nat.gcd_rec, show (a + 1) % a = 1 % a by rw [Nat.add_mod_left], ← Nat.gcd_rec, Nat.gcd_one_right]
  rw [hg, Nat.div_one] at p1 p2
  refine ⟨?_, p2⟩
  have : ¬ (mkRat (a : Int) (a + 1)).num < 0 := fun h => by have := p3.1 h; omega
  omega
theorem a_step {a : Nat} (ha : 1 ≤ a) : (a : Rat) * mkRat ((a + 1 : Nat) : Int) a = (a : Rat) + 1 := by
  have h0 : (a : Rat) ≠ 0 := by
    intro h
    have := Rat.natCast_eq_zero_iff.1 h
    omega
  rw [Rat.mkRat_eq_div]
  have : (((a + 1 : Nat) : Int) : Rat) = (a : Rat) + 1 := by push_cast; rfl
  rw [this]
  have e : ((a : Int) : Rat) = (a : Rat) := rfl
  grind
theorem pow_posS {x : Rat} (hx : 0 < x) : ∀ n : Nat, 0 < x ^ n
  | 0 => by rw [Rat.pow_zero]; decide
  | n + 1 => by rw [Rat.pow_succ]; exact Rat.mul_pos (pow_posS hx n) hx
theorem valM_step {a : Nat} (ha : 1 ≤ a) (k : Nat) : valM a (k + 1) - valM a k = mkRat ((a + 1 : Nat) : Int) a ^ k := by
  have h := a_step ha
  unfold valM
  rw [Rat.pow_succ]
  generalize mkRat ((a + 1 : Nat) : Int) a = r at *
  generalize r ^ k = y at *
  grind
theorem step_gt {a : Nat} (ha : 1 ≤ a) : 1 < mkRat ((a + 1 : Nat) : Int) a := by
  obtain ⟨q1, q2⟩ := step_frac ha
  rw [rat_lt, q1, q2]
  show (1 : Rat).num * (a : Int) < ((a + 1 : Nat) : Int) * ((1 : Rat).den : Int)
  simp
  omega
theorem valM_rises {a : Nat} (ha : 1 ≤ a) (k : Nat) : valM a k < valM a (k + 1) ∧ valM a (k + 1) - valM a k < valM a (k + 2) - valM a (k + 1) := by
  have h1 := step_gt ha
  have h0 : (0 : Rat) < mkRat ((a + 1 : Nat) : Int) a := by generalize mkRat ((a + 1 : Nat) : Int) a = r at *; grind
  have hp := pow_posS h0 k
  have e1 := valM_step ha k
  have e2 := valM_step ha (k + 1)
  rw [Rat.pow_succ] at e2
  constructor
  · grind
  · rw [e1, e2]
    generalize mkRat ((a + 1 : Nat) : Int) a = r at *
    generalize r ^ k = y at *
    have : 0 < y * (r - 1) := Rat.mul_pos hp (by grind)
    grind
theorem chM_step (a k : Nat) : chM a k * mkRat (a : Int) (a + 1) = chM a (k + 1) := by
  unfold chM; rw [Rat.pow_succ]
theorem cmpQ_self (x : Rat) : cmpQ x x = 0 := by unfold cmpQ; rw [if_neg Rat.lt_irrefl, if_neg Rat.lt_irrefl]
theorem cmpQ_lt {x y : Rat} (h : x < y) : cmpQ x y = -1 := by unfold cmpQ; rw [if_pos h]
theorem cmpQ_gt {x y : Rat} (h : y < x) : cmpQ x y = 1 := by unfold cmpQ; rw [if_neg (by grind), if_pos h]
end
end Go.Proofs.YtbgkkhbgaicmmaaDoor.Am

namespace Go.Proofs.YtbgkkhbgaicmmaaDoor.Am
section
open Go.RowKit
theorem mchance_ok (a k : Nat) (h1 : 1 ≤ a) (h2 : a ≤ 4096) (hk : k ≤ 1023) (hb : bitsN (a + 1) * k ≤ 8192) : Eqn Tryd.prog n_morris_Chance [.d (.int .i64 a), .d (.int .i64 k)] [] (.tup [.d (rD (chM a k)), .d (.int .i64 0)]) [] ∧ RS (chM a k) 300 := by
  obtain ⟨q1, q2⟩ := step_frac2 (a := a)
  have hmk := rmake_rat a (a + 1) (by omega) (by omega) (by omega)
  obtain ⟨x, hx⟩ : ∃ x, x = mkRat (a : Int) (a + 1) := ⟨_, rfl⟩
  have hv : chM a k = x ^ k := by rw [hx]; rfl
  rw [← hx] at q1 q2 hmk
  have hba : bitsN a ≤ bitsN (a + 1) := bitsN_le (Nat.lt_trans (Nat.lt_succ_self a) (lt_bitsN _))
  have hb2 : bitsN a * k ≤ 8192 := Nat.le_trans (Nat.mul_le_mul_right _ hba) hb
  have le8 : ∀ q : Nat, q * k ≤ 8192 → q ≤ 1 ∨ k ≤ 8192 / q := fun q h => by
    by_cases h1 : q ≤ 1
    · exact .inl h1
    · right; rw [Nat.le_div_iff_mul_le (by omega), Nat.mul_comm]; exact h
  have hxs : RS x 129 := ⟨by rw [q1, Int.natAbs_natCast]; exact Nat.le_trans (size_one (by omega)) (by omega), by rw [q2]; exact Nat.le_trans (size_one (by omega)) (by omega)⟩
  have hpow := rpow_rat x k (by omega) (by omega) (by rw [q1, Int.natAbs_natCast]; exact le8 _ hb2) (by rw [q2]; exact le8 _ hb) hxs (by rw [q1, Int.natAbs_natCast]; exact Nat.le_trans (pow_size hb2) (by omega)) (by rw [q2]; exact Nat.le_trans (pow_size hb) (by omega))
  have hps : RS (x ^ k) 129 := ⟨by rw [Rat.num_pow, Int.natAbs_pow, q1, Int.natAbs_natCast]; exact pow_size hb2, by rw [Rat.den_pow, q2]; exact pow_size hb⟩
  refine ⟨?_, by rw [hv]; exact hps.le (by omega)⟩
  have hw := mwrong1_ok a k
  rw [show wrongM (a : Int) [(k : Int)] = 0 by unfold wrongM; rw [if_pos (by omega), if_pos (by simp [okK]; omega)]] at hw
  have e1 : IntKind.i64.wrap ((a : Int) + 1) = ((a + 1 : Nat) : Int) := by rw [w64 (by omega) (by omega)]; omega
  refine Eqn.pure r_morris_Chance Plain.ok ?_
  rw [hv]
  clear hv hxs hps q1 q2 hx
  generalize x ^ k = xk at *
  generalize ha1 : a + 1 = a' at *
  simp only [c_morris_Chance, rD] at hmk hpow ⊢
  refine G0 ?_; try with_reducible exact tt
  refine CallS.pf 1 1 ⟨3, _⟩ [.int .i64 k] (hw) (by first | rfl | (simp [e1]; done)) (R1 e1 ?_); try with_reducible exact tt
  refine AW.cond rfl (fun h => ?_) (fun h => ?_)
  · simp at h
  refine G1 e1 ?_; try with_reducible exact tt
  refine CallS.pu (hmk) (R0 ?_); try with_reducible exact tt
  refine CallS.pu (hpow) (R0 ?_); try with_reducible exact tt
theorem rtextN_ok (n : Nat) (h : n < 100) : Eqn Tryd.prog n_rat_Rat_Text [.d (rD ((n : Nat) : Rat))] [] (.d (.str (smallS n))) [] := by
  refine Eqn.pure r_rat_Rat_Text Plain.ok ?_
  have h1 := wtext_ok n h
  have hz := zero_ok 0
  have e : rD ((n : Nat) : Rat) = .agg [natW n, .bool false, natW 0] := by
    unfold rD
    rw [Rat.num_natCast, Rat.den_natCast, Int.natAbs_natCast]
    congr 4
  rw [e]
  simp only [c_rat_Rat_Text]
  have hwh : Eqn Tryd.prog n_rat_Rat_Whole [.d (.agg [natW n, .bool false, natW 0])] [] (.d (.bool true)) [] := by
    refine Eqn.pure r_rat_Rat_Whole Plain.ok ?_
    simp only [c_rat_Rat_Whole]
    refine A01 hz ?_; try with_reducible exact tt
  refine A02 hwh h1 ?_; try with_reducible exact tt
theorem awakeM_ok : Eqn Tryd.prog n_Tlaw12_awake [] [] (.d (.bool true)) [] := by
  refine Eqn.pure r_Tlaw12_awake Plain.ok ?_
  have h1 := (mvalue_ok 1 3 (by omega) (by omega) (by omega) (by decide)).1
  have h2 := (mchance_ok 1 2 (by omega) (by omega) (by omega) (by decide)).1
  have e1 : valM 1 3 = ((7 : Nat) : Rat) := by unfold valM; decide +kernel
  have e2 : rD (chM 1 2) = .agg [natW 1, .bool false, natW 3] := by
    have : chM 1 2 = mkRat 1 4 := by unfold chM; decide +kernel
    rw [this]
    obtain ⟨e3, e4⟩ : (mkRat 1 4).num = 1 ∧ (mkRat 1 4).den = 4 := by decide +kernel
    unfold rD
    rw [e3, e4]
    rfl
  have t1 := rtextN_ok 7 (by omega)
  have t2 := rtext_ok 1 3 (by omega) (by omega) (by omega)
  have hg := mgood_ok 1
  have hs1 : (smallS 7).toList = [55] := by kernel_rfl
  have hs2 : (smallS 1 ++ ⟨#[47]⟩ ++ smallS (3 + 1)).toList = [49, 47, 52] := by kernel_rfl
  rw [e1] at h1
  rw [e2] at h2
  generalize ((7 : Nat) : Rat) = q7 at *
  simp only [rD] at h1 t1
  generalize natW 1 = N1 at *
  generalize natW 3 = N3 at *
  generalize smallS 1 ++ ⟨#[47]⟩ ++ smallS (3 + 1) = s2 at *
  generalize smallS 7 = s1 at *
  simp only [c_Tlaw12_awake]
  refine A16 (fs hs1 hs2) h1 h2 t1 t2 hg hg ?_; try with_reducible exact tt
end
end Go.Proofs.YtbgkkhbgaicmmaaDoor.Am
namespace Go.Proofs.YtbgkkhbgaicmmaaDoor.Am
section
open Go.RowKit
theorem morrisRises_ok (a0 k0 : Int) : Eqn Tryd.prog n_Tlaw12_MorrisRises [.d (.int .i64 a0), .d (.int .i64 k0)] [] (.d (.bool true)) [] := by
  obtain ⟨a1, ha, ha2⟩ := and_mask9 a0 63 (by omega)
  obtain ⟨j, hk, hk2⟩ := and_mask9 k0 31 (by omega)
  replace ha : bits BinOp.and IntKind.i64 a0 63 = a1 := ha
  replace hk : bits BinOp.and IntKind.i64 k0 31 = j := hk
  refine Eqn.pure r_Tlaw12_MorrisRises Plain.ok ?_
  have hbit : ∀ i : Nat, i ≤ 33 → bitsN (1 + a1 + 1) * i ≤ 8192 := fun i hi => by
    have h1 : bitsN (1 + a1 + 1) ≤ 7 := bitsN_le (Nat.lt_of_le_of_lt (show 1 + a1 + 1 ≤ 65 by omega) (by decide))
    have := Nat.mul_le_mul h1 hi
    omega
  obtain ⟨hx, sx⟩ := mchance_ok (1 + a1) j (by omega) (by omega) (by omega) (hbit j (by omega))
  obtain ⟨hy, sy⟩ := mchance_ok (1 + a1) (j + 1) (by omega) (by omega) (by omega) (hbit _ (by omega))
  obtain ⟨hu, su⟩ := mvalue_ok (1 + a1) j (by omega) (by omega) (by omega) (hbit j (by omega))
  obtain ⟨hv, sv⟩ := mvalue_ok (1 + a1) (j + 1) (by omega) (by omega) (by omega) (hbit _ (by omega))
  obtain ⟨hw, sw⟩ := mvalue_ok (1 + a1) (j + 2) (by omega) (by omega) (by omega) (hbit _ (by omega))
  obtain ⟨r1, r2⟩ := valM_rises (a := 1 + a1) (by omega) j
  have r0 := chM_step (1 + a1) j
  have h1 := rmake_rat (1 + a1) (1 + a1 + 1) (by omega) (by omega) (by omega)
  have s1 : RS (mkRat ((1 + a1 : Nat) : Int) (1 + a1 + 1)) 1 := RS.mk' (by omega) (by rw [Int.natAbs_natCast]; exact size_one (by omega)) (size_one (by omega))
  have m1 := rmul_int (chM (1 + a1) j) (mkRat ((1 + a1 : Nat) : Int) (1 + a1 + 1)) (sx.le (by omega)) (s1.le (by omega))
  have c1 := rcmp_rat (chM (1 + a1) j * mkRat ((1 + a1 : Nat) : Int) (1 + a1 + 1)) (chM (1 + a1) (j + 1)) ((RS.mul sx s1).le (by omega)) (sy.le (by omega))
  have c2 := rcmp_rat (valM (1 + a1) j) (valM (1 + a1) (j + 1)) (su.le (by omega)) (sv.le (by omega))
  have d1 := rsub_rat (valM (1 + a1) (j + 2)) (valM (1 + a1) (j + 1)) (sw.le (by omega)) (sv.le (by omega))
  have d2 := rsub_rat (valM (1 + a1) (j + 1)) (valM (1 + a1) j) (sv.le (by omega)) (su.le (by omega))
  have c3 := rcmp_rat (valM (1 + a1) (j + 2) - valM (1 + a1) (j + 1)) (valM (1 + a1) (j + 1) - valM (1 + a1) j) ((RS.sub sw sv).le (by omega)) ((RS.sub sv su).le (by omega))
  rw [r0, cmpQ_self] at c1
  rw [r0] at m1
  rw [cmpQ_lt r1] at c2
  rw [cmpQ_gt r2] at c3
  clear r0 r1 r2 sx sy su sv sw s1
  generalize valM (1 + a1) (j + 2) - valM (1 + a1) (j + 1) = q1 at *
  generalize valM (1 + a1) (j + 1) - valM (1 + a1) j = q2 at *
  generalize chM (1 + a1) j = x at *
  generalize chM (1 + a1) (j + 1) = y at *
  generalize valM (1 + a1) j = u at *
  generalize valM (1 + a1) (j + 1) = v at *
  generalize valM (1 + a1) (j + 2) = w at *
  generalize mkRat ((1 + a1 : Nat) : Int) (1 + a1 + 1) = o at *
  simp only [c_Tlaw12_MorrisRises, rD] at hx hy hu hv hw h1 m1 c1 c2 d1 d2 c3 ⊢
  have e1 : IntKind.i64.wrap (1 + (a1 : Int)) = ((1 + a1 : Nat) : Int) := by rw [w64 (by omega) (by omega)]; omega
  have e2 : IntKind.i64.wrap (1 + (j : Int)) = ((j + 1 : Nat) : Int) := by rw [w64 (by omega) (by omega)]; omega
  have e3 : IntKind.i64.wrap (((j + 1 : Nat) : Int) - 1) = (j : Int) := by rw [w64 (by omega) (by omega)]; omega
  have e4 : IntKind.i64.wrap (((j + 1 : Nat) : Int) + 1) = ((j + 2 : Nat) : Int) := by rw [w64 (by omega) (by omega)]; omega
  have e5 : IntKind.i64.wrap (((1 + a1 : Nat) : Int) + 1) = ((1 + a1 + 1 : Nat) : Int) := by rw [w64 (by omega) (by omega)]; omega
  generalize hA : 1 + a1 + 1 = A1 at *
  generalize hB : 1 + a1 = A at *
  generalize hJ : j + 2 = J2 at *
  generalize hJ1 : j + 1 = J1 at *
  have haw := awakeM_ok
  refine A18 (fs ha (fs hk (fs e1 (fs e2 (fs e3 (fs e4 e5)))))) haw hx hy hu hv hw h1 h1 ?_; try with_reducible exact tt
  refine A06 m1 c1 c2 d1 d2 c3 ?_; try with_reducible exact tt
end
end Go.Proofs.YtbgkkhbgaicmmaaDoor.Am
namespace Go.Proofs.YtbgkkhbgaicmmaaDoor.Am
section
open Go.RowKit

theorem fnOf_enter {P : Program} {f : FuncId} {c : C} {rs : List RV} {nt : Nat} (hf : fnOf P f = some (c, rs, nt, false)) (vs : Array Value) (w : World) : (callFunc f vs).run P w = .ok (.enter f vs) w := by
  unfold fnOf at hf
  split at hf
  · rename_i fn hfn
    split at hf
    · rename_i b hb
      simp only [Option.some.injEq, Prod.mk.injEq] at hf
      obtain ⟨h1, h2, h3, h4⟩ := hf
      have h1 : ¬ fn.name = "runtime.NumGoroutine" := by simpa using h4
      simp [callFunc, hfn, h1, hb]
    · cases hf
  · cases hf

/-- the world that a law finds: nothing has a name, what is there stays -/
abbrev memW (W : World) : Mem := ⟨fun _ => none, fun b => b < W.heap.size, W⟩

theorem law_walk {P : Program} {f : FuncId} {args : List V} {c : C} {rs : List RV} {nt : Nat} (hf : fnOf P f = some (c, rs, nt, false)) (E : Eqn P f args [] (.d (.bool true)) []) {W : World} {vs : List Value} (h : V.reps (memW W) args vs) :
    Calls P f vs.toArray W (fun e W' => e = .returned (.bool true) ∧ Same W W') := by
  rcases E.run (memW W) vs ⟨fun b h => h, fun n b h => by cases h⟩ h (by simp) (fun n i b h => by simp at h) (fun _ _ => rfl) with ⟨v, h1, _⟩ | ⟨_, h2⟩
  · rw [fnOf_enter hf] at h1; cases h1
  · refine h2.mono ?_
    rintro e w' ⟨v, m', rfl, rfl, hE⟩
    have hv := hE.rep
    rw [V.rep_d] at hv
    unfold D.rep at hv
    subst hv
    exact ⟨rfl, hE.le.os, hE.le.tape, hE.le.output, hE.le.size, fun k hk _ => hE.le.imm k hk⟩

theorem reps_of {I : Nat → Prop} {w : World} {α : Type} (f : α → D) (g : α → Value) (h : ∀ a, D.rep I w (f a) (g a)) : ∀ l : List α, D.reps I w (l.map f) (l.map g)
  | [] => by simp
  | a :: l => by
    rw [List.map_cons, List.map_cons, D.reps_cons]
    exact ⟨h a, reps_of f g h l⟩
end
end Go.Proofs.YtbgkkhbgaicmmaaDoor.Am
namespace Go.Proofs.YtbgkkhbgaicmmaaDoor.Am
section
open Go.RowKit

theorem mr_walk {W : World} {a k : Int} : Calls Tryd.prog n_Tlaw12_MorrisRises #[.int .i64 a, .int .i64 k] W (fun e W' => e = .returned (.bool true) ∧ Same W W') :=
  law_walk r_Tlaw12_MorrisRises (morrisRises_ok a k) (V.reps_cons.2 ⟨V.rep_int.2 rfl, V.reps_cons.2 ⟨V.rep_int.2 rfl, V.reps_nil.2 rfl⟩⟩)
end
end Go.Proofs.YtbgkkhbgaicmmaaDoor.Am
