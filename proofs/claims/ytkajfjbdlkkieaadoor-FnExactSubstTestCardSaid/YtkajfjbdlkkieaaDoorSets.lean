/- Contracts: sets and relations as texts: validity, one within another; a state's number and the state of a number. -/
import Derived.Test.YtkajfjbdlkkieaaDoorBitOps
import Derived.Test.YtkajfjbdlkkieaaDoorState
import Derived.Deep.QuietTactic
import Derived.BigQuiet
import Derived.Deep.RegionWith
namespace Go.Proofs.YtkajfjbdlkkieaaDoor.Se
open Go.RowKit Go.Proofs.YtkajfjbdlkkieaaDoor.Ro Go.Proofs.YtkajfjbdlkkieaaDoor.Bi Go.Proofs.YtkajfjbdlkkieaaDoor.St

theorem specPredValid (s : ByteArray) (w : World) (hs : s.size ≤ maxLen) : Calls Tryd.prog 23 #[.string s] w fun e w' => e = .returned (.bool (bitsB s 27)) ∧ w = w' := by
  go_enter Tryd.func23, Tryd.ntmps23
  go_wp2_with (go_at_call 39; refine (specBits _ _ _ hs).mono ?_; rintro e w' ⟨rfl, rfl⟩)
  go_ret
  exact ⟨rfl, rfl⟩
theorem implPredValid (s : ByteArray) (w : World) (hs : s.size ≤ maxLen) : Calls Tryd.prog 28 #[.string s] w fun e w' => e = .returned (.bool (bitsB s 27)) ∧ w = w' := by
  go_enter Tryd.func28, Tryd.ntmps28
  go_wp2_with (go_at_call 48; refine (implBits _ _ _ hs).mono ?_; rintro e w' ⟨rfl, rfl⟩)
  go_ret
  exact ⟨rfl, rfl⟩
end Go.Proofs.YtkajfjbdlkkieaaDoor.Se
