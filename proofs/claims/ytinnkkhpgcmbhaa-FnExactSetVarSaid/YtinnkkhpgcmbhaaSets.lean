/- Contracts: sets and relations as texts: validity, one within another; a state's number and the state of a number. -/
import Derived.Test.YtinnkkhpgcmbhaaBitOps
import Derived.Test.YtinnkkhpgcmbhaaState
import Derived.Deep.QuietTactic
import Derived.BigQuiet
import Derived.Deep.RegionWith
namespace Go.Proofs.Ytinnkkhpgcmbhaa.Se
open Go.RowKit Go.Proofs.Ytinnkkhpgcmbhaa.Ro Go.Proofs.Ytinnkkhpgcmbhaa.Bi Go.Proofs.Ytinnkkhpgcmbhaa.St

theorem specPredValid (s : ByteArray) (w : World) (hs : s.size ≤ maxLen) : Calls Try.prog 38 #[.string s] w fun e w' => e = .returned (.bool (bitsB s 27)) ∧ w = w' := by
  go_enter Try.func38, Try.ntmps38
  go_wp2_with (go_at_call 66; refine (specBits _ _ _ hs).mono ?_; rintro e w' ⟨rfl, rfl⟩)
  go_ret
  exact ⟨rfl, rfl⟩
theorem implPredValid (s : ByteArray) (w : World) (hs : s.size ≤ maxLen) : Calls Try.prog 40 #[.string s] w fun e w' => e = .returned (.bool (bitsB s 27)) ∧ w = w' := by
  go_enter Try.func40, Try.ntmps40
  go_wp2_with (go_at_call 68; refine (implBits _ _ _ hs).mono ?_; rintro e w' ⟨rfl, rfl⟩)
  go_ret
  exact ⟨rfl, rfl⟩
theorem specRelValid (s : ByteArray) (w : World) (hs : s.size ≤ maxLen) : Calls Try.prog 47 #[.string s] w fun e w' => e = .returned (.bool (bitsB s 729)) ∧ w = w' := by
  go_enter Try.func47, Try.ntmps47
  go_wp2_with (go_at_call 66; refine (specBits _ _ _ hs).mono ?_; rintro e w' ⟨rfl, rfl⟩)
  go_ret
  exact ⟨rfl, rfl⟩
theorem implRelValid (s : ByteArray) (w : World) (hs : s.size ≤ maxLen) : Calls Try.prog 48 #[.string s] w fun e w' => e = .returned (.bool (bitsB s 729)) ∧ w = w' := by
  go_enter Try.func48, Try.ntmps48
  go_wp2_with (go_at_call 68; refine (implBits _ _ _ hs).mono ?_; rintro e w' ⟨rfl, rfl⟩)
  go_ret
  exact ⟨rfl, rfl⟩
end Go.Proofs.Ytinnkkhpgcmbhaa.Se
