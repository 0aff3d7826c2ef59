import Derived.Test.YtakjegcjeffmgaaNat1
import Derived.Shelf.Spec.BitsCarry
namespace Go.Proofs.Ytakjegcjeffmgaa.Am
open Go.RowKit
set_option maxRecDepth 100000
set_option linter.unusedSimpArgs false
set_option linter.unusedVariables false

/-- words, as cells -/
abbrev U (ws : List Nat) : List V := ws.map fun x : Nat => V.d (.int .u64 x)

theorem add64_ok (x y c s d : Nat) (hx : x < 18446744073709551616) (hy : y < 18446744073709551616) (hc : c ≤ 1) (hs : s < 18446744073709551616) (e : x + y + c = s + 18446744073709551616 * d) : Eqn Try.prog n_math_bits_Add64 [.d (.int .u64 x), .d (.int .u64 y), .d (.int .u64 c)] [] (.tup [.d (.int .u64 s), .d (.int .u64 d)]) [] := by
  refine Eqn.extern x_math_bits_Add64 (by kernel_rfl) (by kernel_rfl) (by kernel_rfl) (e := add64Entry) (by kernel_rfl) rfl fun m vs h => ?_
  obtain ⟨v1, r1, rfl, h1, h⟩ := V.reps_cons'.1 h
  obtain ⟨v2, r2, rfl, h2, h⟩ := V.reps_cons'.1 h
  obtain ⟨v3, r3, rfl, h3, h⟩ := V.reps_cons'.1 h
  simp at h; subst h
  rw [V.rep_int] at h1 h2 h3
  subst h1 h2 h3
  have := run_add64 (P := Try.prog) x y c (by omega) (by omega) (by omega) (by omega) m.w
  refine ⟨_, this, ?_⟩
  unfold V.rep
  refine ⟨[.int .u64 (((x : Int) + y + c) % 18446744073709551616), .int .u64 (((x : Int) + y + c) / 18446744073709551616)], rfl, ?_⟩
  simp only [V.reps_cons, V.rep_int, V.reps_nil, and_true]
  constructor <;> congr 1 <;> omega

theorem sub64_ok (x y c s d : Nat) (hx : x < 18446744073709551616) (hy : y < 18446744073709551616) (hc : c ≤ 1) (hs : s < 18446744073709551616) (e : x + 18446744073709551616 * d = s + y + c) : Eqn Try.prog n_math_bits_Sub64 [.d (.int .u64 x), .d (.int .u64 y), .d (.int .u64 c)] [] (.tup [.d (.int .u64 s), .d (.int .u64 d)]) [] := by
  refine Eqn.extern x_math_bits_Sub64 (by kernel_rfl) (by kernel_rfl) (by kernel_rfl) (e := sub64Entry) (by kernel_rfl) rfl fun m vs h => ?_
  obtain ⟨v1, r1, rfl, h1, h⟩ := V.reps_cons'.1 h
  obtain ⟨v2, r2, rfl, h2, h⟩ := V.reps_cons'.1 h
  obtain ⟨v3, r3, rfl, h3, h⟩ := V.reps_cons'.1 h
  simp at h; subst h
  rw [V.rep_int] at h1 h2 h3
  subst h1 h2 h3
  have := run_sub64 (P := Try.prog) x y c hc m.w
  refine ⟨_, this, ?_⟩
  unfold V.rep
  refine ⟨[.int .u64 s, .int .u64 d], ?_, by simp only [V.reps_cons, V.rep_int, V.reps_nil, and_true]⟩
  congr 4
  · omega
  · congr 2
    split <;> omega

theorem addW_eq (a b : List Nat) (i : Nat) : a.getD i 0 + b.getD i 0 + carryW a b i = addW a b i + 18446744073709551616 * carryW a b (i + 1) := by
  rw [addW, carryW]; exact (Nat.mod_add_div _ _).symm
theorem W_out {ws : List Nat} {k : Nat} (h : ¬ k < ws.length) : ws.getD k 0 = 0 := by simp [List.getD, show ws.length ≤ k by omega]
theorem plain_tup (l : List D) : (V.tup (l.map .d)).plain := by
  have h1 : V.lowl 0 (l.map V.d) = true := by induction l <;> simp_all [V.lowl, V.low]
  have h2 : ∀ θ, V.rens θ (l.map V.d) = l.map V.d := fun θ => by induction l <;> simp_all [V.rens, V.ren]
  exact ⟨by simp [V.low, h1], fun θ => by simp [V.ren, h2]⟩

/-- a row that is being filled -/
def rowV (f : Nat → D) (n i : Nat) : List V := (List.range i).map (fun k => V.d (f k)) ++ List.replicate (n - i) (.d (.int .u64 0))
@[simp] theorem rowV_length (f : Nat → D) (n i : Nat) : (rowV f n i).length = i + (n - i) := by simp [rowV]
theorem out0 (n : Nat) (f : Nat → D) : List.replicate n (V.d (.int .u64 0)) = rowV f n 0 := by simp [rowV]
theorem rowV_set {f : Nat → D} {n i : Nat} (h : i < n) : (rowV f n i).set i (.d (f i)) = rowV f n (i + 1) := by
  obtain ⟨k, rfl⟩ : ∃ k, n = i + k + 1 := ⟨n - i - 1, by omega⟩
  rw [rowV, rowV, List.set_append_right _ _ (by simp), List.range_succ, List.map_append, List.append_assoc]
  congr 1
  simp only [List.length_map, List.length_range, Nat.sub_self]
  rw [show i + k + 1 - i = k + 1 by omega, show i + k + 1 - (i + 1) = k by omega]
  simp [List.replicate_succ]
@[simp] theorem lowl_row (n : Nat) (f : Nat → D) (k i : Nat) : V.lowl n (rowV f k i) = true := by
  have h1 : ∀ l : List D, V.lowl n (l.map V.d) = true := fun l => by induction l <;> simp_all [V.lowl, V.low]
  have : rowV f k i = ((List.range i).map f ++ List.replicate (k - i) (D.int .u64 0)).map .d := by simp [rowV]
  rw [this, h1]
@[simp] theorem subs_refl (l : List V) : Subs l l ↔ True := iff_true_intro (Subs.refl l)
theorem rowV_fin {f : Nat → D} {n : Nat} {z : D} : (rowV f (n + 1) n).set n (.d z) = ((List.range n).map f ++ [z]).map .d := by
  rw [rowV, List.set_append_right _ _ (by simp)]
  simp
theorem rowV_end {f : Nat → D} {n : Nat} : rowV f n n = ((List.range n).map f).map .d := by simp [rowV]

theorem plain_tup2 (a b : D) : (V.tup [.d a, .d b]).plain := plain_tup [a, b]
theorem plain_tup3 (a b c : D) : (V.tup [.d a, .d b, .d c]).plain := plain_tup [a, b, c]

theorem add_ok (m n : Nat) (hm : size m ≤ 1000000) (hn : size n ≤ 1000000) : Eqn Try.prog n_nat_Add [.d (.agg [natW m]), .d (.agg [natW n])] [] (.d (.agg [natW (m + n)])) [] := by
  refine Eqn.pure r_nat_Add (plain_d _) ?_
  -- the longer one, the other one
  obtain ⟨A, B, hAB, hsA, hsB, hle, hsum, hca, hcb⟩ : ∃ A B : List Nat, (A, B) = (if (words m).length < (words n).length then (words n, words m) else (words m, words n)) ∧ small A ∧ small B ∧ B.length ≤ A.length ∧ wval A + wval B = m + n ∧ A.length ≤ 1000000 ∧ B.length ≤ 1000000 := by
    unfold size at hm hn
    by_cases h : (words m).length < (words n).length
    · exact ⟨words n, words m, by rw [if_pos h], words_small _, words_small _, by omega, by rw [words_val, words_val]; omega, by omega, by omega⟩
    · exact ⟨words m, words n, by rw [if_neg h], words_small _, words_small _, by omega, by rw [words_val, words_val], by omega, by omega⟩
  simp only [c_nat_Add, natW, W]
  generalize words m = xs at *
  generalize words n = ys at *
  unfold size at hm hn
  refine AW.seq (AW.reg mix ?_)
  (simp; try simp (disch := omega) only [w64, wu64])
  refine AW.cut 3 [] [(0, ⟨t_nat_Nat, [.d (W A)]⟩), (1, ⟨t_nat_Nat, [.d (W B)]⟩)] ?_ ?_ ?_ ?_
  · simp
  · simp
  · repeat (first | refine AW.seq ?_ | refine AW.block ?_ | (refine AW.reg mix ?_; (simp; try simp (disch := omega) only [w64, wu64])) | (refine need.of (by first | omega | kernel_rfl) ?_) | (refine AW.skip ?_; (try simp)) | (refine AW.ret ?_; (try simp)) | (refine AW.exit ?_; (try simp)))
    refine AW.cond rfl (fun h => ?_) (fun h => ?_)
    · simp at h
      rw [if_pos h] at hAB
      cases hAB
      repeat (first | refine AW.seq ?_ | refine AW.block ?_ | (refine AW.reg mix ?_; (simp; try simp (disch := omega) only [w64, wu64])) | (refine need.of (by first | omega | kernel_rfl) ?_) | (refine AW.skip ?_; (try simp)) | (refine AW.ret ?_; (try simp)) | (refine AW.exit ?_; (try simp)))
      simp [W]
    · simp at h
      rw [if_neg (by omega)] at hAB
      cases hAB
      repeat (first | refine AW.seq ?_ | refine AW.block ?_ | (refine AW.reg mix ?_; (simp; try simp (disch := omega) only [w64, wu64])) | (refine need.of (by first | omega | kernel_rfl) ?_) | (refine AW.skip ?_; (try simp)) | (refine AW.ret ?_; (try simp)) | (refine AW.exit ?_; (try simp)))
      simp [W]
  clear hAB hm hn
  simp [W]
  repeat (first | refine AW.seq ?_ | refine AW.block ?_ | (refine AW.reg mix ?_; (simp; try simp (disch := omega) only [w64, wu64])) | (refine need.of (by first | omega | kernel_rfl) ?_) | (refine AW.skip ?_; (try simp)) | (refine AW.ret ?_; (try simp)) | (refine AW.exit ?_; (try simp)))

  rw [out0 _ (fun k => .int .u64 (addW A B k : Nat))]
  repeat (first | refine AW.seq ?_ | refine AW.block ?_ | (refine AW.reg mix ?_; (simp; try simp (disch := omega) only [w64, wu64])) | (refine need.of (by first | omega | kernel_rfl) ?_) | (refine AW.skip ?_; (try simp)) | (refine AW.ret ?_; (try simp)) | (refine AW.exit ?_; (try simp)))
  refine AW.loopT (α := Nat) 4 (fun i => [(27, .d (.int .i64 (i : Int))), (6, .d (.int .u64 (carryW A B i : Nat)))]) (fun i => [(3, ⟨86, rowV (fun k => .int .u64 (addW A B k : Nat)) (A.length + 1) i⟩)]) (fun i => i ≤ A.length) (fun i => A.length - i) 0 ?_ ?_ (Nat.zero_le _) ?_ ?_ ?_
  · simp
  · simp
  · simp [carryW]
  · simp
  rintro i hi
  simp
  by_cases h : i = A.length
  · subst h
    repeat (first | refine AW.seq ?_ | refine AW.block ?_ | (refine AW.reg mix ?_; (simp; try simp (disch := omega) only [w64, wu64])) | (refine need.of (by first | omega | kernel_rfl) ?_) | (refine AW.skip ?_; (try simp)) | (refine AW.ret ?_; (try simp)) | (refine AW.exit ?_; (try simp)))
    refine AW.cond rfl (fun h => ?_) (fun h => ?_)
    · simp at h
    refine AW.exit ?_
    (try simp; try simp (disch := omega) only [w64, wu64])
    repeat (first | refine AW.seq ?_ | refine AW.block ?_)
    refine AW.reg mix ?_
    (simp; try simp (disch := omega) only [w64, wu64])
    try refine need.of (by first | omega | kernel_rfl) ?_
    obtain ⟨ws, hl, hr, hv, hs⟩ : ∃ ws : List Nat, ws.length = A.length + 1 ∧ (rowV (fun k => .int .u64 (addW A B k : Nat)) (A.length + 1) A.length).set A.length (.d (.int .u64 (carryW A B A.length : Nat))) = U ws ∧ wval ws = m + n ∧ small ws := by
      refine ⟨(List.range A.length).map (addW A B) ++ [carryW A B A.length], by simp, by rw [rowV_fin]; simp [U], ?_, ?_⟩
      · rw [wval_append, ← hsum]
        have := addW_val A B A.length
        rw [List.take_length, List.take_of_length_le hle] at this
        simp [wval]
        rw [← this]
      · intro x hx
        rcases List.mem_append.1 hx with hx | hx
        · obtain ⟨k, -, rfl⟩ := List.mem_map.1 hx; exact addW_lt _ _ _
        · simp at hx; subst hx; have := carryW_le hsA hsB A.length; omega
    rw [hr]
    refine AW.freeze 3 1 ⟨86, _⟩ (ws.map fun x : Nat => .int .u64 x) (by rfl) (by simp) ?_
    simp [← hl, List.take_of_length_le]
    repeat (first | refine AW.seq ?_ | refine AW.block ?_ | (refine AW.reg mix ?_; (simp; try simp (disch := omega) only [w64, wu64])) | (refine need.of (by first | omega | kernel_rfl) ?_) | (refine AW.skip ?_; (try simp)) | (refine AW.ret ?_; (try simp)) | (refine AW.exit ?_; (try simp)))
    refine CallS.pure (trimmed_ok ws hs (by omega)) (by first | exact plain_d _ | exact plain_tup2 _ _ | exact plain_tup3 _ _ _) rfl (fun _ => rfl) (Subs.refl _) ?_
    (try simp; try simp (disch := omega) only [w64, wu64])
    repeat (first | refine AW.seq ?_ | refine AW.block ?_ | (refine AW.reg mix ?_; (simp; try simp (disch := omega) only [w64, wu64])) | (refine need.of (by first | omega | kernel_rfl) ?_) | (refine AW.skip ?_; (try simp)) | (refine AW.ret ?_; (try simp)) | (refine AW.exit ?_; (try simp)))
    refine Sub1.of ?_
    rw [hv]; rfl
  · have hi' : i < A.length := by omega
    have hp : (i : Int) < A.length := by omega
    have hc := carryW_le hsA hsB i
    have hset := rowV_set (f := fun k => .int .u64 (addW A B k : Nat)) (n := A.length + 1) (i := i) (by omega)
    have ew : IntKind.i64.wrap ((i : Int) + 1) = (i : Int) + 1 := w64 (by omega) (by omega)
    repeat (first | refine AW.seq ?_ | refine AW.block ?_ | (refine AW.reg mix ?_; (simp [hi', hp]; try simp (disch := omega) only [w64, wu64])) | (refine need.of (by first | omega | kernel_rfl) ?_) | (refine AW.skip ?_; (try simp [hi', hp])) | (refine AW.ret ?_; (try simp [hi', hp])) | (refine AW.exit ?_; (try simp [hi', hp])))
    refine AW.cond rfl (fun h => ?_) (fun h => ?_)
    · clear h
      by_cases hb : i < B.length
      · have e : A[i] + B[i] + carryW A B i = addW A B i + 18446744073709551616 * carryW A B (i + 1) := by
          rw [← addW_eq, W_get hi', W_get hb]
        repeat (first | refine AW.seq ?_ | refine AW.block ?_ | (refine AW.reg mix ?_; (simp [hi', hp, hb]; try simp (disch := omega) only [w64, wu64])) | (refine need.of (by first | omega | kernel_rfl) ?_) | (refine AW.skip ?_; (try simp [hi', hp, hb])) | (refine AW.ret ?_; (try simp [hi', hp, hb])) | (refine AW.exit ?_; (try simp [hi', hp, hb])))
        refine AW.cond rfl (fun h => ?_) (fun h => ?_)
        · clear h
          repeat (first | refine AW.seq ?_ | refine AW.block ?_ | (refine AW.reg mix ?_; (simp [hi', hp, hb]; try simp (disch := omega) only [w64, wu64])) | (refine need.of (by first | omega | kernel_rfl) ?_) | (refine AW.skip ?_; (try simp [hi', hp, hb])) | (refine AW.ret ?_; (try simp [hi', hp, hb])) | (refine AW.exit ?_; (try simp [hi', hp, hb])))
          refine CallS.pure (add64_ok _ _ _ (addW A B i) (carryW A B (i + 1)) (hsA _ (List.getElem_mem _)) (hsB _ (List.getElem_mem _)) hc (addW_lt _ _ _) e) (by first | exact plain_d _ | exact plain_tup2 _ _ | exact plain_tup3 _ _ _) rfl (fun _ => rfl) (Subs.refl _) ?_
          (try simp [hset, ew]; try simp (disch := omega) only [w64, wu64])
          repeat (first | refine AW.seq ?_ | refine AW.block ?_ | (refine AW.reg mix ?_; (simp [hset, ew]; try simp (disch := omega) only [w64, wu64])) | (refine need.of (by first | omega | kernel_rfl) ?_) | (refine AW.skip ?_; (try simp [hset, ew])) | (refine AW.ret ?_; (try simp [hset, ew])) | (refine AW.exit ?_; (try simp [hset, ew])))
          exact ⟨i + 1, by omega, by omega, by simp [wk, ew], by simp [wkH]⟩
        · simp [hb] at h
      · have e : A[i] + 0 + carryW A B i = addW A B i + 18446744073709551616 * carryW A B (i + 1) := by
          rw [← addW_eq, W_get hi', W_out hb]
        repeat (first | refine AW.seq ?_ | refine AW.block ?_ | (refine AW.reg mix ?_; (simp [hi', hp, hb]; try simp (disch := omega) only [w64, wu64])) | (refine need.of (by first | omega | kernel_rfl) ?_) | (refine AW.skip ?_; (try simp [hi', hp, hb])) | (refine AW.ret ?_; (try simp [hi', hp, hb])) | (refine AW.exit ?_; (try simp [hi', hp, hb])))
        refine AW.cond rfl (fun h => ?_) (fun h => ?_)
        · simp [hb] at h
        · clear h
          repeat (first | refine AW.seq ?_ | refine AW.block ?_ | (refine AW.reg mix ?_; (simp [hi', hp, hb]; try simp (disch := omega) only [w64, wu64])) | (refine need.of (by first | omega | kernel_rfl) ?_) | (refine AW.skip ?_; (try simp [hi', hp, hb])) | (refine AW.ret ?_; (try simp [hi', hp, hb])) | (refine AW.exit ?_; (try simp [hi', hp, hb])))
          refine CallS.pure (add64_ok _ 0 _ (addW A B i) (carryW A B (i + 1)) (hsA _ (List.getElem_mem _)) (by omega) hc (addW_lt _ _ _) e) (by first | exact plain_d _ | exact plain_tup2 _ _ | exact plain_tup3 _ _ _) rfl (fun _ => rfl) (Subs.refl _) ?_
          (try simp [hset, ew]; try simp (disch := omega) only [w64, wu64])
          repeat (first | refine AW.seq ?_ | refine AW.block ?_ | (refine AW.reg mix ?_; (simp [hset, ew]; try simp (disch := omega) only [w64, wu64])) | (refine need.of (by first | omega | kernel_rfl) ?_) | (refine AW.skip ?_; (try simp [hset, ew])) | (refine AW.ret ?_; (try simp [hset, ew])) | (refine AW.exit ?_; (try simp [hset, ew])))
          exact ⟨i + 1, by omega, by omega, by simp [wk, ew], by simp [wkH]⟩
    · simp at h

end Go.Proofs.Ytakjegcjeffmgaa.Am
