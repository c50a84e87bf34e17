/- Contracts: a state's number, the state of a number, a state in a set, a pair in a relation, a state's text. -/
import Derived.Test.YtaimlfhbcgocnaaDoorSets
namespace Go.Proofs.YtaimlfhbcgocnaaDoor.Nu
open Go.RowKit Go.Proofs.YtaimlfhbcgocnaaDoor.Ro Go.Proofs.YtaimlfhbcgocnaaDoor.Bi Go.Proofs.YtaimlfhbcgocnaaDoor.St Go.Proofs.YtaimlfhbcgocnaaDoor.Se

def sx (i : Int) : Int := i % 3
def sy (i : Int) : Int := i / 3 % 3
def sz (i : Int) : Int := i / 9
theorem s_range {i : Int} (_h0 : 0 ≤ i) (_h1 : i < 27) : 0 ≤ sx i ∧ sx i < 3 ∧ 0 ≤ sy i ∧ sy i < 3 ∧ 0 ≤ sz i ∧ sz i < 3 := by unfold sx sy sz; omega
def ix (x y z : Int) : Int := x + 3 * y + 9 * z
theorem ix_range {x y z : Int} (h : 0 ≤ x ∧ x < 3 ∧ 0 ≤ y ∧ y < 3 ∧ 0 ≤ z ∧ z < 3) : 0 ≤ ix x y z ∧ ix x y z < 27 := by unfold ix; omega
theorem ix_s {i : Int} (_h0 : 0 ≤ i) (_h1 : i < 27) : ix (sx i) (sy i) (sz i) = i := by unfold ix sx sy sz; omega
theorem s_ix {x y z : Int} (h : 0 ≤ x ∧ x < 3 ∧ 0 ≤ y ∧ y < 3 ∧ 0 ≤ z ∧ z < 3) : sx (ix x y z) = x ∧ sy (ix x y z) = y ∧ sz (ix x y z) = z := by unfold ix sx sy sz; omega

theorem specAt (i : Int) (w : World) (h0 : 0 ≤ i) (h1 : i < 27) :
    Calls Tryd.prog 27 #[.int .i64 i] w fun e w' => e = .returned (.agg #[.int .i64 (sx i), .int .i64 (sy i), .int .i64 (sz i)]) ∧ box w 49 (sx i) (sy i) (sz i) = w' := by
  go_enter Tryd.func27, Tryd.ntmps27
  go_wp2
  exact bodyPost_ret (v := .agg #[.int .i64 (sx i), .int .i64 (sy i), .int .i64 (sz i)]) (by simp [results, Tryd.results27, go_sem, sx, sy, sz]) rfl ⟨rfl, rfl⟩
/-- The number of a state, or -1. -/
def numB (x y z : Int) : Int := if stB x y z then ix x y z else -1
theorem numB_true {x y z : Int} (h : stB x y z = true) : numB x y z = ix x y z := by simp [numB, h]
theorem numB_false {x y z : Int} (h : stB x y z = false) : numB x y z = -1 := by simp [numB, h]
end Go.Proofs.YtaimlfhbcgocnaaDoor.Nu
