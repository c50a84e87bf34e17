/- Contracts: states (validity, number, the state of a number, equality, the copy of a law's argument). -/
import Derived.Test.YtaimlfhbcgocnaaDoorProg
import Derived.WalkKit
import Derived.WalkSpells
import Derived.Below
namespace Go.Proofs.YtaimlfhbcgocnaaDoor.St
open Go.RowKit

/-- A state of valid values. -/
def stB (x y z : Int) : Bool := decide (0 ≤ x ∧ x < 3 ∧ 0 ≤ y ∧ y < 3 ∧ 0 ≤ z ∧ z < 3)
theorem stB_true {x y z : Int} (h : 0 ≤ x ∧ x < 3 ∧ 0 ≤ y ∧ y < 3 ∧ 0 ≤ z ∧ z < 3) : stB x y z = true := by simp [stB]; omega
theorem stB_false {x y z : Int} (h : ¬ (0 ≤ x ∧ x < 3 ∧ 0 ≤ y ∧ y < 3 ∧ 0 ≤ z ∧ z < 3)) : stB x y z = false := by simp [stB]; omega
theorem of_stB {x y z : Int} (h : stB x y z = true) : 0 ≤ x ∧ x < 3 ∧ 0 ≤ y ∧ y < 3 ∧ 0 ≤ z ∧ z < 3 := by simpa [stB] using h
theorem of_stB' {x y z : Int} (h : stB x y z = true) : x ≤ 2 ∧ y ≤ 2 ∧ z ≤ 2 := by have := of_stB h; omega
theorem of_not_stB {x y z : Int} (h : stB x y z = false) : x < 0 ∨ (2 < x ∧ 3 ≤ x) ∨ (0 ≤ x ∧ x ≤ 2 ∧ x < 3 ∧ (y < 0 ∨ (2 < y ∧ 3 ≤ y) ∨ (0 ≤ y ∧ y ≤ 2 ∧ y < 3 ∧ (z < 0 ∨ (2 < z ∧ 3 ≤ z))))) := by
  have : ¬ (0 ≤ x ∧ x < 3 ∧ 0 ≤ y ∧ y < 3 ∧ 0 ≤ z ∧ z < 3) := by simpa [stB] using h
  omega

/-- The variable in which a state handed over by value lies. -/
abbrev box (w : World) (t : TypeId) (x y z : Int) : World := w.alloc (.cells #[.int .i64 x, .int .i64 y, .int .i64 z] t)

end Go.Proofs.YtaimlfhbcgocnaaDoor.St
