import Derived.Test.YtakjegcjeffmgaaDoorYu4
import Derived.Test.YtakjegcjeffmgaaDoorAmLaw
namespace Go.Proofs.YtakjegcjeffmgaaDoor.Am
open Go.RowKit

theorem ys_walk {W : World} {v : Value} {cs : List Bool} (w0 : Bools W v cs) {d k j : Int} : Calls Tryd.prog n_Tlaw14_YuSteps #[v, .int .i64 d, .agg #[.int .i64 k, .int .i64 j]] W (fun e W' => e = .returned (.bool true) ∧ Same W W') :=
  law_walk r_Tlaw14_YuSteps (yuSteps_ok cs d k j (by have := bools_len w0; unfold maxLen at this; omega))
    (V.reps_cons.2 ⟨rep_bools w0, V.reps_cons.2 ⟨V.rep_int.2 rfl, V.reps_cons.2 ⟨rep_agg (l := [.int .i64 k, .int .i64 j]) (vs := [.int .i64 k, .int .i64 j]) (by simp [Value.oneCell']) (D.reps_cons.2 ⟨D.rep_int.2 rfl, D.reps_cons.2 ⟨D.rep_int.2 rfl, D.reps_nil.2 rfl⟩⟩), V.reps_nil.2 rfl⟩⟩⟩)
theorem yr_walk {W : World} {s k : Int} : Calls Tryd.prog n_Tlaw14_YuRises #[.int .i64 s, .int .i64 k] W (fun e W' => e = .returned (.bool true) ∧ Same W W') :=
  law_walk r_Tlaw14_YuRises (yuRises_ok s k) (V.reps_cons.2 ⟨V.rep_int.2 rfl, V.reps_cons.2 ⟨V.rep_int.2 rfl, V.reps_nil.2 rfl⟩⟩)
end Go.Proofs.YtakjegcjeffmgaaDoor.Am
