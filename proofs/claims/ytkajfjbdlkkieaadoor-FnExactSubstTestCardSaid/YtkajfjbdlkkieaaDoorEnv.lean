/- Contracts: the values of six variables, of one state; another value of one of them; the state of them. -/
import Derived.Test.YtkajfjbdlkkieaaDoorState
namespace Go.Proofs.YtkajfjbdlkkieaaDoor.En
open Go.RowKit Go.Proofs.YtkajfjbdlkkieaaDoor.St

/-- Six values. -/
abbrev env6 (a b c d e f : Int) : Value := .agg #[.int .i64 a, .int .i64 b, .int .i64 c, .int .i64 d, .int .i64 e, .int .i64 f]
abbrev box6 (w : World) (t : TypeId) (a b c d e f : Int) : World := w.alloc (.cells #[.int .i64 a, .int .i64 b, .int .i64 c, .int .i64 d, .int .i64 e, .int .i64 f] t)
theorem specOne (x y z : Int) (w : World) : Calls Tryd.prog 41 #[.agg #[.int .i64 x, .int .i64 y, .int .i64 z]] w fun e w' => e = .returned (env6 x y z 0 0 0) ∧ box6 (box w 31 x y z) 50 x y z 0 0 0 = w' := by
  go_enter Tryd.func41, Tryd.ntmps41
  go_wp2
  exact bodyPost_ret (v := env6 x y z 0 0 0) (by simp [results, Tryd.results41, go_sem]) rfl ⟨rfl, rfl⟩
theorem specSet0 (a b c n : Int) (w : World) : Calls Tryd.prog 54 #[env6 a b c 0 0 0, .int .i64 0, .int .i64 n] w fun e w' => e = .returned (env6 n b c 0 0 0) ∧ Below w.heap.size w w' := by
  go_enter Tryd.func54, Tryd.ntmps54
  go_wp2
  exact bodyPost_ret (v := env6 n b c 0 0 0) (by simp [results, Tryd.results54, go_sem]) rfl ⟨rfl, by repeat (first | exact Below.refl _ _ | refine Below.alloc ?_ (by simp <;> omega) _)⟩
theorem specSet1 (a b c n : Int) (w : World) : Calls Tryd.prog 54 #[env6 a b c 0 0 0, .int .i64 1, .int .i64 n] w fun e w' => e = .returned (env6 a n c 0 0 0) ∧ Below w.heap.size w w' := by
  go_enter Tryd.func54, Tryd.ntmps54
  go_wp2
  exact bodyPost_ret (v := env6 a n c 0 0 0) (by simp [results, Tryd.results54, go_sem]) rfl ⟨rfl, by repeat (first | exact Below.refl _ _ | refine Below.alloc ?_ (by simp <;> omega) _)⟩
theorem specSet2 (a b c n : Int) (w : World) : Calls Tryd.prog 54 #[env6 a b c 0 0 0, .int .i64 2, .int .i64 n] w fun e w' => e = .returned (env6 a b n 0 0 0) ∧ Below w.heap.size w w' := by
  go_enter Tryd.func54, Tryd.ntmps54
  go_wp2
  exact bodyPost_ret (v := env6 a b n 0 0 0) (by simp [results, Tryd.results54, go_sem]) rfl ⟨rfl, by repeat (first | exact Below.refl _ _ | refine Below.alloc ?_ (by simp <;> omega) _)⟩
theorem specState (a b c d e f : Int) (w : World) : Calls Tryd.prog 53 #[env6 a b c d e f] w fun g w' => g = .returned (.agg #[.int .i64 a, .int .i64 b, .int .i64 c]) ∧ Below w.heap.size w w' := by
  go_enter Tryd.func53, Tryd.ntmps53
  go_wp2
  exact bodyPost_ret (v := .agg #[.int .i64 a, .int .i64 b, .int .i64 c]) (by simp [results, Tryd.results53, go_sem]) rfl ⟨rfl, by repeat (first | exact Below.refl _ _ | refine Below.alloc ?_ (by simp <;> omega) _)⟩
end Go.Proofs.YtkajfjbdlkkieaaDoor.En
