/- Contracts: the values of six variables, of one state; another value of one of them; the state of them. -/
import Derived.Test.YtfmmpahafliklaaState
namespace Go.Proofs.Ytfmmpahafliklaa.En
open Go.RowKit Go.Proofs.Ytfmmpahafliklaa.St

/-- Six values. -/
abbrev env6 (a b c d e f : Int) : Value := .agg #[.int .i64 a, .int .i64 b, .int .i64 c, .int .i64 d, .int .i64 e, .int .i64 f]
abbrev box6 (w : World) (t : TypeId) (a b c d e f : Int) : World := w.alloc (.cells #[.int .i64 a, .int .i64 b, .int .i64 c, .int .i64 d, .int .i64 e, .int .i64 f] t)
theorem specOne (x y z : Int) (w : World) : Calls Try.prog 54 #[.agg #[.int .i64 x, .int .i64 y, .int .i64 z]] w fun e w' => e = .returned (env6 x y z 0 0 0) ∧ box6 (box w 31 x y z) 47 x y z 0 0 0 = w' := by
  go_enter Try.func54, Try.ntmps54
  go_wp2
  exact bodyPost_ret (v := env6 x y z 0 0 0) (by simp [results, Try.results54, go_sem]) rfl ⟨rfl, rfl⟩
end Go.Proofs.Ytfmmpahafliklaa.En
