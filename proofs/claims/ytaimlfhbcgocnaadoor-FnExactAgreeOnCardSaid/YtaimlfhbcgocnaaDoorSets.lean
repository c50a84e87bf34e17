/- Contracts: sets and relations as texts: validity, one within another; a state's number and the state of a number. -/
import Derived.Test.YtaimlfhbcgocnaaDoorBitOps
import Derived.Test.YtaimlfhbcgocnaaDoorState
import Derived.Deep.QuietTactic
import Derived.BigQuiet
import Derived.Deep.RegionWith
namespace Go.Proofs.YtaimlfhbcgocnaaDoor.Se
open Go.RowKit Go.Proofs.YtaimlfhbcgocnaaDoor.Ro Go.Proofs.YtaimlfhbcgocnaaDoor.Bi Go.Proofs.YtaimlfhbcgocnaaDoor.St

end Go.Proofs.YtaimlfhbcgocnaaDoor.Se
