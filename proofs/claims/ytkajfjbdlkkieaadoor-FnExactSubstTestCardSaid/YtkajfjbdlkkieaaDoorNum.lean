/- Contracts: a state's number, the state of a number, a state in a set, a pair in a relation, a state's text. -/
import Derived.Test.YtkajfjbdlkkieaaDoorSets
namespace Go.Proofs.YtkajfjbdlkkieaaDoor.Nu
open Go.RowKit Go.Proofs.YtkajfjbdlkkieaaDoor.Ro Go.Proofs.YtkajfjbdlkkieaaDoor.Bi Go.Proofs.YtkajfjbdlkkieaaDoor.St Go.Proofs.YtkajfjbdlkkieaaDoor.Se

def sx (i : Int) : Int := i % 3
def sy (i : Int) : Int := i / 3 % 3
def sz (i : Int) : Int := i / 9
theorem s_range {i : Int} (_h0 : 0 ≤ i) (_h1 : i < 27) : 0 ≤ sx i ∧ sx i < 3 ∧ 0 ≤ sy i ∧ sy i < 3 ∧ 0 ≤ sz i ∧ sz i < 3 := by unfold sx sy sz; omega
def ix (x y z : Int) : Int := x + 3 * y + 9 * z
theorem ix_range {x y z : Int} (h : 0 ≤ x ∧ x < 3 ∧ 0 ≤ y ∧ y < 3 ∧ 0 ≤ z ∧ z < 3) : 0 ≤ ix x y z ∧ ix x y z < 27 := by unfold ix; omega
theorem ix_s {i : Int} (_h0 : 0 ≤ i) (_h1 : i < 27) : ix (sx i) (sy i) (sz i) = i := by unfold ix sx sy sz; omega
theorem s_ix {x y z : Int} (h : 0 ≤ x ∧ x < 3 ∧ 0 ≤ y ∧ y < 3 ∧ 0 ≤ z ∧ z < 3) : sx (ix x y z) = x ∧ sy (ix x y z) = y ∧ sz (ix x y z) = z := by unfold ix sx sy sz; omega

theorem specIndex (x y z : Int) (w : World) (h : stB x y z = true) :
    Calls Tryd.prog 24 #[.agg #[.int .i64 x, .int .i64 y, .int .i64 z]] w fun e w' => e = .returned (.int .i64 (ix x y z)) ∧ box w 31 x y z = w' := by
  obtain ⟨_, _, _, _, _, _⟩ := of_stB h
  clear h
  go_enter Tryd.func24, Tryd.ntmps24
  go_wp2
  go_ret
  exact ⟨rfl, rfl⟩
theorem specAt (i : Int) (w : World) (h0 : 0 ≤ i) (h1 : i < 27) :
    Calls Tryd.prog 26 #[.int .i64 i] w fun e w' => e = .returned (.agg #[.int .i64 (sx i), .int .i64 (sy i), .int .i64 (sz i)]) ∧ box w 31 (sx i) (sy i) (sz i) = w' := by
  go_enter Tryd.func26, Tryd.ntmps26
  go_wp2
  exact bodyPost_ret (v := .agg #[.int .i64 (sx i), .int .i64 (sy i), .int .i64 (sz i)]) (by simp [results, Tryd.results26, go_sem, sx, sy, sz]) rfl ⟨rfl, rfl⟩
theorem implAt (i : Int) (w : World) (h0 : 0 ≤ i) (h1 : i < 27) :
    Calls Tryd.prog 44 #[.int .i64 i] w fun e w' => e = .returned (.agg #[.int .i64 (sx i), .int .i64 (sy i), .int .i64 (sz i)]) ∧ box w 31 (sx i) (sy i) (sz i) = w' := by
  go_enter Tryd.func44, Tryd.ntmps44
  go_wp2
  exact bodyPost_ret (v := .agg #[.int .i64 (sx i), .int .i64 (sy i), .int .i64 (sz i)]) (by simp [results, Tryd.results44, go_sem, sx, sy, sz]) rfl ⟨rfl, rfl⟩
/-- The number of a state, or -1. -/
def numB (x y z : Int) : Int := if stB x y z then ix x y z else -1
theorem numB_true {x y z : Int} (h : stB x y z = true) : numB x y z = ix x y z := by simp [numB, h]
theorem numB_false {x y z : Int} (h : stB x y z = false) : numB x y z = -1 := by simp [numB, h]
end Go.Proofs.YtkajfjbdlkkieaaDoor.Nu
