/- The law ThinMeans: walked. -/
import Derived.Test.YtfcamaiehepinaaMeansB
namespace Go.Proofs.Ytfcamaiehepinaa
open Go.RowKit
set_option linter.unusedSimpArgs false
set_option linter.unusedVariables false

theorem val_le {most times : Nat} {x : St} (h : x.ok most times) (hm : most ≤ 4) (ht : times ≤ 4) : x.val ≤ 64 := by
  have h1 := h.1
  have h2 := h.2.1
  have : 2 ^ x.t ≤ 2 ^ 4 := Nat.pow_le_pow_right (by decide) (by omega)
  calc x.val = x.y * 2 ^ x.t := rfl
    _ ≤ 4 * 2 ^ 4 := Nat.mul_le_mul (by omega) this

theorem leaf_run {α : Type} {x : α} : ∀ {t : Tr α}, t.leaf x → ∃ cs q, ∀ pre, t.run (pre ++ cs) pre.length = some (x, q + pre.length) := by
  intro t
  induction t with
  | ret y => intro h; simp only [Tr.leaf] at h; subst h; exact ⟨[], 0, fun pre => by simp [Tr.run]⟩
  | flip f ih =>
    intro h
    have key : ∀ b, (f b).leaf x → ∃ cs q, ∀ pre, (Tr.flip f).run (pre ++ cs) pre.length = some (x, q + pre.length) := by
      intro b hb
      obtain ⟨cs, q, hr⟩ := ih b hb
      refine ⟨b :: cs, q + 1, fun pre => ?_⟩
      have := hr (pre ++ [b])
      simp only [Tr.run]
      rw [if_pos (by simp)]
      have e : (pre ++ b :: cs).getD pre.length false = b := by simp
      rw [e, show pre ++ b :: cs = pre ++ [b] ++ cs by simp]
      simp only [List.length_append, List.length_singleton] at this
      rw [this]
      congr 2
      omega
    rcases h with h | h
    · exact key false h
    · exact key true h

theorem addT_ok (most times n : Nat) : ∀ x cs q, (addT most times n S0).run cs 0 = some (x, q) → x.ok most times := by
  intro x cs q h
  rw [addT_run] at h
  exact (addM_ok h (Nat.zero_le _) (S0_ok _ _)).1
theorem bothT_ok (most times n m : Nat) : ∀ x cs q, (bothT most times n m).run cs 0 = some (x, q) → x.ok most times := by
  intro x cs q h
  rw [bothT_run] at h
  rcases h1 : addM cs most times n S0 0 with _ | ⟨a, p⟩
  · rw [h1] at h; cases h
  · rw [h1] at h
    simp only at h
    have e1 := addM_ok h1 (Nat.zero_le _) (S0_ok most times)
    rcases h2 : addM cs most times m S0 p with _ | ⟨b, r⟩
    · rw [h2] at h; cases h
    · rw [h2] at h
      have e2 := addM_ok h2 e1.2.2 (S0_ok most times)
      exact (mergeM_ok h e2.2.2 e1.1 e2.1).1
theorem sum_small {T : Tr St} {most times : Nat} (hok : ∀ x cs q, T.run cs 0 = some (x, q) → x.ok most times) (hm : most ≤ 4) (ht : times ≤ 4) : T.sum St.val 13 ≤ 64 * 2 ^ 13 := by
  refine sum_le St.val 64 T 13 fun x hx => ?_
  obtain ⟨cs, q, h⟩ := leaf_run hx
  exact val_le (hok x cs q (by have := h []; simpa using this)) hm ht

set_option maxRecDepth 100000 in
set_option maxHeartbeats 8000000 in
theorem means_walk {w : World} {a b n0 m0 : Int} :
    Calls Try.prog 10 #[.agg #[.int .i64 a, .int .i64 b], .int .i64 n0, .int .i64 m0] w fun e w' => e = .returned (.bool true) ∧ Same w w' := by
  have hmf : ∀ (fn : Fn) (first cap : Array Value) (w : World), (Instr.makeFunc fn first cap).run Try.prog w = .ok (.func fn first cap) w := fun _ _ _ _ => rfl
  obtain ⟨A, hA, hA3⟩ := and3 a
  obtain ⟨B, hB, hB3⟩ := and3 b
  obtain ⟨n, hn, hn3⟩ := and3 n0
  obtain ⟨m, hm, hm3⟩ := and3 m0
  have hwA : IntKind.i64.wrap (1 + (A : Int)) = ((A + 1 : Nat) : Int) := by rw [IntKind.wrap_i64]; omega
  have hwB : IntKind.i64.wrap (1 + (B : Int)) = ((B + 1 : Nat) : Int) := by rw [IntKind.wrap_i64]; omega
  go_enter Try.func10, Try.ntmps10
  go_wp2_with fail
  refine (awake16_any _).mono ?_
  rintro e w1 ⟨rfl, hs1⟩
  have m1 := hs1.read [(w.heap.size, 2), (w.heap.size + 1, 1), (w.heap.size + 1 + 1, 1)] (by simp; omega)
  simp [Reads, SameN, go_sem] at m1
  have hs : Same w w1 := hs1.to (by simp [ext_s])
  clear hs1
  go_upto_region 4 with fail
  obtain ⟨N, hN⟩ : ∃ N, N = w.heap.size + 1 := ⟨_, rfl⟩
  obtain ⟨M, hM⟩ : ∃ M, M = N + 1 := ⟨_, rfl⟩
  obtain ⟨X, hX⟩ : ∃ X, X = w1.heap.size := ⟨_, rfl⟩
  rw [← hN, ← hM] at m1
  rw [← hN, ← hM, ← hX]
  refine over_wp (w0 := w) (fun _ => False) [(w.heap.size, 2), (N, 1), (M, 1), (X, 2)] (by simp [ext_s, hs, hs.size]) (by simp [m1, hX]; omega) ?_
  intro w2 hs2 m2 _
  simp [Reads, SameN, go_sem, m1, hX] at m2
  rw [← hX] at m2
  have hlt : N < X ∧ M < X := by simp [m1, hX]
  have hge : w.heap.size ≤ N ∧ w.heap.size ≤ M ∧ w.heap.size ≤ X ∧ ¬ N = M ∧ ¬ M = N ∧ ¬ N = X ∧ ¬ M = X ∧ ¬ X = N ∧ ¬ X = M := by have := hs.size; omega
  clear hN hM hX hs m1
  go_cut [7] (fun s7 wx => s7 = .pointer (some ⟨X, 0, none⟩) ∧ AskAt X N M (A + 1) (B + 1) n m wx ∧ Same w wx)
  case first =>
    go_wp2_with fail
    go_region
    all_goals go_wp2
    all_goals go_meet
    all_goals refine ⟨rfl, ?_, ?_⟩
    · simp [AskAt, At1, go_sem, m2, hge]
    · simp [ext_s, ext_drew, hs2, hge]
  case rest =>
    obtain ⟨rfl, hask, hs⟩ := hcut
    have hg : goodThin (A + 1) (B + 1) := ⟨by omega, by omega, by omega⟩
    have hfn1 : ∀ (args : Array Value) (w : World), Sem.run Try.prog (callFunc 34 args) w = .ok (.enter 34 args) w := fun args w => by simp [go_sem]
    have hfn2 : ∀ (args : Array Value) (w : World), Sem.run Try.prog (callFunc 35 args) w = .ok (.enter 35 args) w := fun args w => by simp [go_sem]
    have hAsk : ∀ (w0 : World), AskAt X N M (A + 1) (B + 1) n m w0 → ∀ (U : Nat → Prop) (wa wb : World), AskAt X N M (A + 1) (B + 1) n m wa → Ext U wa wb → (∀ k, U k → w0.heap.size ≤ k) → AskAt X N M (A + 1) (B + 1) n m wb := by
      intro w0 h0 U wa wb ha e hU
      refine ha.ext e (fun h => ?_) (fun h => ?_) (fun h => ?_)
      · have := hU _ h; have := h0.1.1.1; omega
      · have := hU _ h; have := h0.2.2.1.1.1; omega
      · have := hU _ h; have := h0.2.2.2.1.1; omega
    have hL : ∀ w0, AskAt X N M (A + 1) (B + 1) n m w0 → X + 1 ≤ w0.heap.size := fun w0 h => h.1.1.1
    have s1 := sum_small (addT_ok (A + 1) (B + 1) (n + m)) (by omega) (by omega)
    have s2 := sum_small (bothT_ok (A + 1) (B + 1) n m) (by omega) (by omega)
    have t1 := mart_add (A + 1) (B + 1) (n + m) S0
    have t2 := mart_both (A + 1) (B + 1) n m
    have a1 := mean_any (addT (A + 1) (B + 1) (n + m) S0) (A + 1) (B + 1) 34 (.pointer (some ⟨X, 0, none⟩)) (.pointer (some ⟨N, 0, none⟩)) (.pointer (some ⟨M, 0, none⟩)) _ wc hask (hAsk wc hask) (X + 1) hL (fun w0 b v cs ha _ ht => ask1_any X N M _ _ n m hg hn3 hm3 w0 b v cs ha ht) hfn1 hg (addT_ok _ _ _) (Nat.le_trans s1 (by decide))
    have a2 := fun w5 (h5 : AskAt X N M (A + 1) (B + 1) n m w5) => mean_any (bothT (A + 1) (B + 1) n m) (A + 1) (B + 1) 35 (.pointer (some ⟨X, 0, none⟩)) (.pointer (some ⟨N, 0, none⟩)) (.pointer (some ⟨M, 0, none⟩)) _ w5 h5 (hAsk w5 h5) (X + 1) hL (fun w0 b v cs ha hb ht => ask2_any X N M _ _ n m hg hn3 hm3 w0 b v cs ha ⟨by omega, by omega, by omega⟩ ht) hfn2 hg (bothT_ok _ _ _ _) (Nat.le_trans s2 (by decide))
    replace t1 := t1 13
    replace t2 := t2 13
    rw [show S0.val + (n + m) = n + m by simp [S0, St.val]] at t1
    generalize (addT (A + 1) (B + 1) (n + m) S0).sum St.val 13 = U1 at *
    generalize (addT (A + 1) (B + 1) (n + m) S0).any St.full 13 = F1 at *
    generalize (addT (A + 1) (B + 1) (n + m) S0).opn 13 = O1 at *
    generalize (bothT (A + 1) (B + 1) n m).sum St.val 13 = U2 at *
    generalize (bothT (A + 1) (B + 1) n m).any St.full 13 = F2 at *
    generalize (bothT (A + 1) (B + 1) n m).opn 13 = O2 at *
    replace a1 := Lib.hid a1
    replace a2 := Lib.hid a2
    replace t1 := Lib.hid t1
    replace t2 := Lib.hid t2
    clear hAsk hL s1 s2 hs2 m2 hA hB hwA hwB hn hm hfn1 hfn2
    have mm := hask
    simp only [AskAt, At1] at mm
    go_wp2_with fail
    refine a1.out.mono ?_
    rintro e w4 ⟨rfl, hs4⟩
    have h4 := hask.ext hs4 (fun h => h) (fun h => h) (fun h => h)
    replace hs := hs.same hs4
    clear mm hask hs4 a1
    have m4 := h4
    simp only [AskAt, At1] at m4
    have hsh : IntKind.i64.wrap (((n : Int) + m) * 8192) = ((n : Int) + m) * 8192 := by rw [IntKind.wrap_i64]; omega
    have hU1 : (F1 = false ∧ O1 = false ∧ U1 = (n + m) * 2 ^ 13) ∨ (F1 = true ∧ O1 = true) ∨ (F1 = true ∧ O1 = false) ∨ (F1 = false ∧ O1 = true) := by
      have := t1.out
      cases F1 <;> cases O1
      · exact .inl ⟨rfl, rfl, this rfl rfl⟩
      · exact .inr (.inr (.inr ⟨rfl, rfl⟩))
      · exact .inr (.inr (.inl ⟨rfl, rfl⟩))
      · exact .inr (.inl ⟨rfl, rfl⟩)
    have hU2 : Hid ((F2 = false ∧ O2 = false ∧ U2 = (n + m) * 2 ^ 13) ∨ (F2 = true ∧ O2 = true) ∨ (F2 = true ∧ O2 = false) ∨ (F2 = false ∧ O2 = true)) := by
      have := t2.out
      cases F2 <;> cases O2
      · exact .inl ⟨rfl, rfl, this rfl rfl⟩
      · exact .inr (.inr (.inr ⟨rfl, rfl⟩))
      · exact .inr (.inr (.inl ⟨rfl, rfl⟩))
      · exact .inr (.inl ⟨rfl, rfl⟩)
    clear t1 t2
    rcases hU1 with ⟨rfl, rfl, rfl⟩ | ⟨rfl, rfl⟩ | ⟨rfl, rfl⟩ | ⟨rfl, rfl⟩
    all_goals
      go_wp2_with fail
      refine (a2.out _ h4).mono ?_
      rintro e w6 ⟨rfl, hs6⟩
      have h6 := h4.ext hs6 (fun h => h) (fun h => h) (fun h => h)
      replace hs := hs.same hs6
      clear hs6 a2 m4 h4
      have m6 := h6
      simp only [AskAt, At1] at m6
      rcases hU2.out with ⟨rfl, rfl, rfl⟩ | ⟨rfl, rfl⟩ | ⟨rfl, rfl⟩ | ⟨rfl, rfl⟩
      all_goals
        clear hU2
        go_wp2
        go_ret
        exact ⟨by simp, hs⟩

end Go.Proofs.Ytfcamaiehepinaa
