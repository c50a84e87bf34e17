/- Contracts: sets and relations as texts: validity, one within another; a state's number and the state of a number. -/
import Derived.Test.YtnamdobckkhceaaBitOps
import Derived.Test.YtnamdobckkhceaaState
import Derived.Deep.QuietTactic
import Derived.BigQuiet
import Derived.Deep.RegionWith
namespace Go.Proofs.Ytnamdobckkhceaa.Se
open Go.RowKit Go.Proofs.Ytnamdobckkhceaa.Ro Go.Proofs.Ytnamdobckkhceaa.Bi Go.Proofs.Ytnamdobckkhceaa.St

theorem specPredValid (s : ByteArray) (w : World) (hs : s.size ≤ maxLen) : Calls Try.prog 31 #[.string s] w fun e w' => e = .returned (.bool (bitsB s 27)) ∧ w = w' := by
  go_enter Try.func31, Try.ntmps31
  go_wp2_with (go_at_call 58; refine (specBits _ _ _ hs).mono ?_; rintro e w' ⟨rfl, rfl⟩)
  go_ret
  exact ⟨rfl, rfl⟩
theorem implPredValid (s : ByteArray) (w : World) (hs : s.size ≤ maxLen) : Calls Try.prog 36 #[.string s] w fun e w' => e = .returned (.bool (bitsB s 27)) ∧ w = w' := by
  go_enter Try.func36, Try.ntmps36
  go_wp2_with (go_at_call 60; refine (implBits _ _ _ hs).mono ?_; rintro e w' ⟨rfl, rfl⟩)
  go_ret
  exact ⟨rfl, rfl⟩
theorem specRelValid (s : ByteArray) (w : World) (hs : s.size ≤ maxLen) : Calls Try.prog 30 #[.string s] w fun e w' => e = .returned (.bool (bitsB s 729)) ∧ w = w' := by
  go_enter Try.func30, Try.ntmps30
  go_wp2_with (go_at_call 58; refine (specBits _ _ _ hs).mono ?_; rintro e w' ⟨rfl, rfl⟩)
  go_ret
  exact ⟨rfl, rfl⟩
theorem implRelValid (s : ByteArray) (w : World) (hs : s.size ≤ maxLen) : Calls Try.prog 35 #[.string s] w fun e w' => e = .returned (.bool (bitsB s 729)) ∧ w = w' := by
  go_enter Try.func35, Try.ntmps35
  go_wp2_with (go_at_call 60; refine (implBits _ _ _ hs).mono ?_; rintro e w' ⟨rfl, rfl⟩)
  go_ret
  exact ⟨rfl, rfl⟩
end Go.Proofs.Ytnamdobckkhceaa.Se
