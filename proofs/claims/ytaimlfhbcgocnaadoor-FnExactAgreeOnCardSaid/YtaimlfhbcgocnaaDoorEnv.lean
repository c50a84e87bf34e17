/- Contracts: the values of six variables, of one state; another value of one of them; the state of them. -/
import Derived.Test.YtaimlfhbcgocnaaDoorState
namespace Go.Proofs.YtaimlfhbcgocnaaDoor.En
open Go.RowKit Go.Proofs.YtaimlfhbcgocnaaDoor.St

/-- Six values. -/
abbrev env6 (a b c d e f : Int) : Value := .agg #[.int .i64 a, .int .i64 b, .int .i64 c, .int .i64 d, .int .i64 e, .int .i64 f]
abbrev box6 (w : World) (t : TypeId) (a b c d e f : Int) : World := w.alloc (.cells #[.int .i64 a, .int .i64 b, .int .i64 c, .int .i64 d, .int .i64 e, .int .i64 f] t)
end Go.Proofs.YtaimlfhbcgocnaaDoor.En
