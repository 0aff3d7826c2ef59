import Derived.Test.YtakjegcjeffmgaaChain9
import Derived.Test.YtakjegcjeffmgaaAmLaw
namespace Go.Proofs.Ytakjegcjeffmgaa.Am
open Go.RowKit

theorem reps_ints {I : Nat → Prop} {w : World} : ∀ l : List Int, D.reps I w (l.map (D.int .i64)) (l.map (Value.int .i64))
  | [] => D.reps_nil.2 rfl
  | _ :: l => D.reps_cons.2 ⟨D.rep_int.2 rfl, reps_ints l⟩
theorem rep_ints {W : World} (l : List Int) : V.rep (memW W) (.d (.agg (l.map (D.int .i64)))) (.agg (l.map (Value.int .i64)).toArray) :=
  rep_agg (fun u hu => by obtain ⟨n, -, rfl⟩ := List.mem_map.1 hu; rfl) (reps_ints l)

theorem cs_walk {W : World} {v : Value} {cs : List Bool} (w1 : Bools W v cs) {k a w n0 n1 n2 : Int} : Calls Try.prog n_Tlaw15_ChainSplits #[.agg #[.int .i64 k, .int .i64 a, .int .i64 w], v, .agg #[.int .i64 n0, .int .i64 n1, .int .i64 n2]] W (fun e W' => e = .returned (.bool true) ∧ Same W W') :=
  law_walk r_Tlaw15_ChainSplits (chainSplits_ok cs k a w n0 n1 n2 (by have := bools_len w1; unfold maxLen at this; omega))
    (V.reps_cons.2 ⟨rep_ints [k, a, w], V.reps_cons.2 ⟨rep_bools w1, V.reps_cons.2 ⟨rep_ints [n0, n1, n2], V.reps_nil.2 rfl⟩⟩⟩)
end Go.Proofs.Ytakjegcjeffmgaa.Am
