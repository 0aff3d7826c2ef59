import Derived.Test.YtakjegcjeffmgaaNat2
namespace Go.Proofs.Ytakjegcjeffmgaa.Am
open Go.RowKit
set_option maxRecDepth 100000
set_option linter.unusedSimpArgs false
set_option linter.unusedVariables false

theorem subW_eq {a b : List Nat} (ha : small a) (hb : small b) (i : Nat) : a.getD i 0 + 18446744073709551616 * borrowW a b (i + 1) = subW a b i + b.getD i 0 + borrowW a b i := by
  have h1 := ha.getD i
  have h2 := hb.getD i
  have h3 := borrowW_le a b i
  simp only [subW, borrowW]
  split <;> omega
theorem borrow_end {a b : List Nat} (ha : small a) (hb : small b) (hl : b.length ≤ a.length) (h : wval b ≤ wval a) : wval ((List.range a.length).map (subW a b)) = wval a - wval b := by
  have h1 := subW_val ha hb a.length
  rw [List.take_length, List.take_of_length_le hl] at h1
  have h2 := borrowW_le a b a.length
  have h3 := wval_lt (range_small (subW_lt a b) a.length)
  rw [List.length_map, List.length_range] at h3
  have : borrowW a b a.length = 0 ∨ borrowW a b a.length = 1 := by omega
  rcases this with e | e
  · rw [e] at h1; omega
  · rw [e] at h1; omega
theorem size_le {m n : Nat} (h : m ≤ n) : size m ≤ size n := by
  apply Nat.le_of_not_lt
  intro hlt
  have := size_lt hlt
  omega

theorem sub_ok (m n : Nat) (hm : size m ≤ 1000000) (hle : n ≤ m) : Eqn Try.prog n_nat_Sub [.d (.agg [natW m]), .d (.agg [natW n])] [] (.tup [.d (.agg [natW (m - n)]), .d (.int .i64 0)]) [] := by
  refine Eqn.pure r_nat_Sub (plain_tup2 _ _) ?_
  have hs := size_le hle
  simp only [c_nat_Sub]
  repeat (first | refine AW.seq ?_ | refine AW.block ?_ | (refine AW.reg mix ?_; (simp; try simp (disch := omega) only [w64, wu64])) | (refine need.of (by first | omega | kernel_rfl) ?_) | (refine AW.skip ?_; (try simp)) | (refine AW.ret ?_; (try simp)) | (refine AW.exit ?_; (try simp)))
  refine CallS.pure (cmp_ok m n hm (by omega)) (by first | exact plain_d _ | exact plain_tup2 _ _ | exact plain_tup3 _ _ _) rfl (fun _ => rfl) (Subs.refl _) ?_
  (try simp; try simp (disch := omega) only [w64, wu64])
  repeat (first | refine AW.seq ?_ | refine AW.block ?_ | (refine AW.reg mix ?_; (simp; try simp (disch := omega) only [w64, wu64])) | (refine need.of (by first | omega | kernel_rfl) ?_) | (refine AW.skip ?_; (try simp)) | (refine AW.ret ?_; (try simp)) | (refine AW.exit ?_; (try simp)))
  have hc : ¬ cmpZ m n < 0 := by unfold cmpZ; split <;> (try split) <;> omega
  refine AW.cond rfl (fun h => ?_) (fun h => ?_)
  · simp [hc] at h
  clear h
  repeat (first | refine AW.seq ?_ | refine AW.block ?_ | (refine AW.reg mix ?_; (simp; try simp (disch := omega) only [w64, wu64])) | (refine need.of (by first | omega | kernel_rfl) ?_) | (refine AW.skip ?_; (try simp)) | (refine AW.ret ?_; (try simp)) | (refine AW.exit ?_; (try simp)))
  unfold size at hm hs
  obtain ⟨A, hA⟩ : ∃ A, A = words m := ⟨_, rfl⟩
  obtain ⟨B, hB⟩ : ∃ B, B = words n := ⟨_, rfl⟩
  have hsA : small A := hA ▸ words_small m
  have hsB : small B := hB ▸ words_small n
  have hvA : wval A = m := by rw [hA, words_val]
  have hvB : wval B = n := by rw [hB, words_val]
  rw [show natW m = .sl A.length (A.map fun x : Nat => .int .u64 x) by rw [hA]; rfl, show natW n = .sl B.length (B.map fun x : Nat => .int .u64 x) by rw [hB]; rfl]
  rw [← hA, ← hB] at hs
  rw [← hA] at hm
  clear hA hB
  repeat (first | refine AW.seq ?_ | refine AW.block ?_ | (refine AW.reg mix ?_; (simp; try simp (disch := omega) only [w64, wu64])) | (refine need.of (by first | omega | kernel_rfl) ?_) | (refine AW.skip ?_; (try simp)) | (refine AW.ret ?_; (try simp)) | (refine AW.exit ?_; (try simp)))
  rw [out0 _ (fun k => .int .u64 (subW A B k : Nat))]
  refine AW.loopT (α := Nat) 4 (fun i => [(23, .d (.int .i64 (i : Int))), (7, .d (.int .u64 (borrowW A B i : Nat)))]) (fun i => [(3, ⟨86, rowV (fun k => .int .u64 (subW A B k : Nat)) A.length i⟩)]) (fun i => i ≤ A.length) (fun i => A.length - i) 0 ?_ ?_ (Nat.zero_le _) ?_ ?_ ?_
  · simp
  · simp
  · simp [borrowW]
  · simp
  rintro i hi
  simp
  by_cases h : i = A.length
  · subst h
    repeat (first | refine AW.seq ?_ | refine AW.block ?_ | (refine AW.reg mix ?_; (simp; try simp (disch := omega) only [w64, wu64])) | (refine need.of (by first | omega | kernel_rfl) ?_) | (refine AW.skip ?_; (try simp)) | (refine AW.ret ?_; (try simp)) | (refine AW.exit ?_; (try simp)))
    refine AW.cond rfl (fun h => ?_) (fun h => ?_)
    · simp at h
    refine AW.exit ?_
    (try simp; try simp (disch := omega) only [w64, wu64])
    obtain ⟨ws, hl, hr, hv, hs'⟩ : ∃ ws : List Nat, ws.length = A.length ∧ rowV (fun k => .int .u64 (subW A B k : Nat)) A.length A.length = U ws ∧ wval ws = m - n ∧ small ws := by
      refine ⟨(List.range A.length).map (subW A B), by simp, by rw [rowV_end]; simp [U], ?_, range_small (subW_lt A B) _⟩
      rw [← hvA, ← hvB]
      exact borrow_end hsA hsB hs (by omega)
    rw [hr]
    refine AW.freeze 3 1 ⟨86, _⟩ (ws.map fun x : Nat => .int .u64 x) (by rfl) (by simp) ?_
    simp [← hl, List.take_of_length_le]
    repeat (first | refine AW.seq ?_ | refine AW.block ?_ | (refine AW.reg mix ?_; (simp; try simp (disch := omega) only [w64, wu64])) | (refine need.of (by first | omega | kernel_rfl) ?_) | (refine AW.skip ?_; (try simp)) | (refine AW.ret ?_; (try simp)) | (refine AW.exit ?_; (try simp)))
    refine CallS.pure (trimmed_ok ws hs' (by omega)) (by first | exact plain_d _ | exact plain_tup2 _ _ | exact plain_tup3 _ _ _) rfl (fun _ => rfl) (Subs.refl _) ?_
    (try simp; try simp (disch := omega) only [w64, wu64])
    repeat (first | refine AW.seq ?_ | refine AW.block ?_ | (refine AW.reg mix ?_; (simp; try simp (disch := omega) only [w64, wu64])) | (refine need.of (by first | omega | kernel_rfl) ?_) | (refine AW.skip ?_; (try simp)) | (refine AW.ret ?_; (try simp)) | (refine AW.exit ?_; (try simp)))
    refine Sub1.of ?_
    rw [hv]
  · have hi' : i < A.length := by omega
    have hp : (i : Int) < A.length := by omega
    have hc := borrowW_le A B i
    have hset := rowV_set (f := fun k => .int .u64 (subW A B k : Nat)) (n := A.length) (i := i) (by omega)
    have ew : IntKind.i64.wrap ((i : Int) + 1) = (i : Int) + 1 := w64 (by omega) (by omega)
    have e := subW_eq hsA hsB i
    repeat (first | refine AW.seq ?_ | refine AW.block ?_ | (refine AW.reg mix ?_; (simp [hi', hp]; try simp (disch := omega) only [w64, wu64])) | (refine need.of (by first | omega | kernel_rfl) ?_) | (refine AW.skip ?_; (try simp [hi', hp])) | (refine AW.ret ?_; (try simp [hi', hp])) | (refine AW.exit ?_; (try simp [hi', hp])))
    refine AW.cond rfl (fun h => ?_) (fun h => ?_)
    · clear h
      by_cases hb : i < B.length
      · rw [← W_get hi', ← W_get hb] at e
        repeat (first | refine AW.seq ?_ | refine AW.block ?_ | (refine AW.reg mix ?_; (simp [hi', hp, hb]; try simp (disch := omega) only [w64, wu64])) | (refine need.of (by first | omega | kernel_rfl) ?_) | (refine AW.skip ?_; (try simp [hi', hp, hb])) | (refine AW.ret ?_; (try simp [hi', hp, hb])) | (refine AW.exit ?_; (try simp [hi', hp, hb])))
        refine AW.cond rfl (fun h => ?_) (fun h => ?_)
        · clear h
          repeat (first | refine AW.seq ?_ | refine AW.block ?_ | (refine AW.reg mix ?_; (simp [hi', hp, hb]; try simp (disch := omega) only [w64, wu64])) | (refine need.of (by first | omega | kernel_rfl) ?_) | (refine AW.skip ?_; (try simp [hi', hp, hb])) | (refine AW.ret ?_; (try simp [hi', hp, hb])) | (refine AW.exit ?_; (try simp [hi', hp, hb])))
          refine CallS.pure (sub64_ok _ _ _ (subW A B i) (borrowW A B (i + 1)) (hsA _ (List.getElem_mem _)) (hsB _ (List.getElem_mem _)) hc (subW_lt _ _ _) e) (by first | exact plain_d _ | exact plain_tup2 _ _ | exact plain_tup3 _ _ _) rfl (fun _ => rfl) (Subs.refl _) ?_
          (try simp [hset, ew]; try simp (disch := omega) only [w64, wu64])
          repeat (first | refine AW.seq ?_ | refine AW.block ?_ | (refine AW.reg mix ?_; (simp [hset, ew]; try simp (disch := omega) only [w64, wu64])) | (refine need.of (by first | omega | kernel_rfl) ?_) | (refine AW.skip ?_; (try simp [hset, ew])) | (refine AW.ret ?_; (try simp [hset, ew])) | (refine AW.exit ?_; (try simp [hset, ew])))
          exact ⟨i + 1, by omega, by omega, by simp [wk, ew], by simp [wkH]⟩
        · simp [hb] at h
      · rw [← W_get hi', W_out hb] at e
        repeat (first | refine AW.seq ?_ | refine AW.block ?_ | (refine AW.reg mix ?_; (simp [hi', hp, hb]; try simp (disch := omega) only [w64, wu64])) | (refine need.of (by first | omega | kernel_rfl) ?_) | (refine AW.skip ?_; (try simp [hi', hp, hb])) | (refine AW.ret ?_; (try simp [hi', hp, hb])) | (refine AW.exit ?_; (try simp [hi', hp, hb])))
        refine AW.cond rfl (fun h => ?_) (fun h => ?_)
        · simp [hb] at h
        · clear h
          repeat (first | refine AW.seq ?_ | refine AW.block ?_ | (refine AW.reg mix ?_; (simp [hi', hp, hb]; try simp (disch := omega) only [w64, wu64])) | (refine need.of (by first | omega | kernel_rfl) ?_) | (refine AW.skip ?_; (try simp [hi', hp, hb])) | (refine AW.ret ?_; (try simp [hi', hp, hb])) | (refine AW.exit ?_; (try simp [hi', hp, hb])))
          refine CallS.pure (sub64_ok _ 0 _ (subW A B i) (borrowW A B (i + 1)) (hsA _ (List.getElem_mem _)) (by omega) hc (subW_lt _ _ _) e) (by first | exact plain_d _ | exact plain_tup2 _ _ | exact plain_tup3 _ _ _) rfl (fun _ => rfl) (Subs.refl _) ?_
          (try simp [hset, ew]; try simp (disch := omega) only [w64, wu64])
          repeat (first | refine AW.seq ?_ | refine AW.block ?_ | (refine AW.reg mix ?_; (simp [hset, ew]; try simp (disch := omega) only [w64, wu64])) | (refine need.of (by first | omega | kernel_rfl) ?_) | (refine AW.skip ?_; (try simp [hset, ew])) | (refine AW.ret ?_; (try simp [hset, ew])) | (refine AW.exit ?_; (try simp [hset, ew])))
          exact ⟨i + 1, by omega, by omega, by simp [wk, ew], by simp [wkH]⟩
    · simp at h

end Go.Proofs.Ytakjegcjeffmgaa.Am
