/- Contracts: sets and relations as texts: validity, one within another; a state's number and the state of a number. -/
import Derived.Test.YtdmfcbjjnjpniaaDoorBitOps
import Derived.Test.YtdmfcbjjnjpniaaDoorState
import Derived.Deep.QuietTactic
import Derived.BigQuiet
import Derived.Deep.RegionWith
namespace Go.Proofs.YtdmfcbjjnjpniaaDoor.Se
open Go.RowKit Go.Proofs.YtdmfcbjjnjpniaaDoor.Ro Go.Proofs.YtdmfcbjjnjpniaaDoor.Bi Go.Proofs.YtdmfcbjjnjpniaaDoor.St

theorem specPredValid (s : ByteArray) (w : World) (hs : s.size ≤ maxLen) : Calls Tryd.prog 12 #[.string s] w fun e w' => e = .returned (.bool (bitsB s 27)) ∧ w = w' := by
  go_enter Tryd.func12, Tryd.ntmps12
  go_wp2_with (go_at_call 29; refine (specBits _ _ _ hs).mono ?_; rintro e w' ⟨rfl, rfl⟩)
  go_ret
  exact ⟨rfl, rfl⟩
theorem implPredValid (s : ByteArray) (w : World) (hs : s.size ≤ maxLen) : Calls Tryd.prog 15 #[.string s] w fun e w' => e = .returned (.bool (bitsB s 27)) ∧ w = w' := by
  go_enter Tryd.func15, Tryd.ntmps15
  go_wp2_with (go_at_call 35; refine (implBits _ _ _ hs).mono ?_; rintro e w' ⟨rfl, rfl⟩)
  go_ret
  exact ⟨rfl, rfl⟩
end Go.Proofs.YtdmfcbjjnjpniaaDoor.Se
