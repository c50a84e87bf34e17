/- Contracts: sets and relations as texts: validity, one within another; a state's number and the state of a number. -/
import Derived.Test.YtaimlfhbcgocnaaBitOps
import Derived.Test.YtaimlfhbcgocnaaState
import Derived.Deep.QuietTactic
import Derived.BigQuiet
import Derived.Deep.RegionWith
namespace Go.Proofs.Ytaimlfhbcgocnaa.Se
open Go.RowKit Go.Proofs.Ytaimlfhbcgocnaa.Ro Go.Proofs.Ytaimlfhbcgocnaa.Bi Go.Proofs.Ytaimlfhbcgocnaa.St

end Go.Proofs.Ytaimlfhbcgocnaa.Se
