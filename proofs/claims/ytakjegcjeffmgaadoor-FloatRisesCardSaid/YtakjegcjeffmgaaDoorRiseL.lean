import Derived.Test.YtakjegcjeffmgaaDoorRise2
import Derived.Test.YtakjegcjeffmgaaDoorAmLaw
namespace Go.Proofs.YtakjegcjeffmgaaDoor.Am
open Go.RowKit

theorem fr_walk {W : World} {d k : Int} : Calls Tryd.prog n_Tlaw13_FloatRises #[.int .i64 d, .int .i64 k] W (fun e W' => e = .returned (.bool true) ∧ Same W W') :=
  law_walk r_Tlaw13_FloatRises (floatRises_ok d k) (V.reps_cons.2 ⟨V.rep_int.2 rfl, V.reps_cons.2 ⟨V.rep_int.2 rfl, V.reps_nil.2 rfl⟩⟩)
end Go.Proofs.YtakjegcjeffmgaaDoor.Am
