/- Contracts: a state's number, the state of a number, a state in a set, a pair in a relation, a state's text. -/
import Derived.Test.YtaimlfhbcgocnaaSets
namespace Go.Proofs.Ytaimlfhbcgocnaa.Nu
open Go.RowKit Go.Proofs.Ytaimlfhbcgocnaa.Ro Go.Proofs.Ytaimlfhbcgocnaa.Bi Go.Proofs.Ytaimlfhbcgocnaa.St Go.Proofs.Ytaimlfhbcgocnaa.Se

def sx (i : Int) : Int := i % 3
def sy (i : Int) : Int := i / 3 % 3
def sz (i : Int) : Int := i / 9
theorem s_range {i : Int} (_h0 : 0 ≤ i) (_h1 : i < 27) : 0 ≤ sx i ∧ sx i < 3 ∧ 0 ≤ sy i ∧ sy i < 3 ∧ 0 ≤ sz i ∧ sz i < 3 := by unfold sx sy sz; omega
def ix (x y z : Int) : Int := x + 3 * y + 9 * z
theorem ix_range {x y z : Int} (h : 0 ≤ x ∧ x < 3 ∧ 0 ≤ y ∧ y < 3 ∧ 0 ≤ z ∧ z < 3) : 0 ≤ ix x y z ∧ ix x y z < 27 := by unfold ix; omega
theorem ix_s {i : Int} (_h0 : 0 ≤ i) (_h1 : i < 27) : ix (sx i) (sy i) (sz i) = i := by unfold ix sx sy sz; omega
theorem s_ix {x y z : Int} (h : 0 ≤ x ∧ x < 3 ∧ 0 ≤ y ∧ y < 3 ∧ 0 ≤ z ∧ z < 3) : sx (ix x y z) = x ∧ sy (ix x y z) = y ∧ sz (ix x y z) = z := by unfold ix sx sy sz; omega

theorem specIndex (x y z : Int) (w : World) (h : stB x y z = true) :
    Calls Try.prog 20 #[.agg #[.int .i64 x, .int .i64 y, .int .i64 z]] w fun e w' => e = .returned (.int .i64 (ix x y z)) ∧ box w 24 x y z = w' := by
  obtain ⟨_, _, _, _, _, _⟩ := of_stB h
  clear h
  go_enter Try.func20, Try.ntmps20
  go_wp2
  go_ret
  exact ⟨rfl, rfl⟩
theorem implAt (i : Int) (w : World) (h0 : 0 ≤ i) (h1 : i < 27) :
    Calls Try.prog 23 #[.int .i64 i] w fun e w' => e = .returned (.agg #[.int .i64 (sx i), .int .i64 (sy i), .int .i64 (sz i)]) ∧ box w 24 (sx i) (sy i) (sz i) = w' := by
  go_enter Try.func23, Try.ntmps23
  go_wp2
  exact bodyPost_ret (v := .agg #[.int .i64 (sx i), .int .i64 (sy i), .int .i64 (sz i)]) (by simp [results, Try.results23, go_sem, sx, sy, sz]) rfl ⟨rfl, rfl⟩
/-- The number of a state, or -1. -/
def numB (x y z : Int) : Int := if stB x y z then ix x y z else -1
theorem numB_true {x y z : Int} (h : stB x y z = true) : numB x y z = ix x y z := by simp [numB, h]
theorem numB_false {x y z : Int} (h : stB x y z = false) : numB x y z = -1 := by simp [numB, h]
theorem specStateIndex (x y z : Int) (w : World) :
    Calls Try.prog 8 #[.agg #[.int .i64 x, .int .i64 y, .int .i64 z]] w fun e w' => e = .returned (.int .i64 (numB x y z)) ∧ Below w.heap.size w w' := by
  cases h : stB x y z with
  | true =>
    have H := Lib.hid h
    obtain ⟨_, _, _, _, _, _⟩ := of_stB h
    have HN := Lib.hid (numB_true h)
    clear h
    go_enter Try.func8, Try.ntmps8
    go_wp2_with (first
      | (go_at_call 19; refine (specStateValid _ _ _ _).mono ?_; rintro e w' ⟨rfl, rfl⟩; rw [H.out])
      | (go_at_call 20; refine (specIndex _ _ _ _ H.out).mono ?_; rintro e w' ⟨rfl, rfl⟩))
    go_ret
    exact ⟨by rw [HN.out]; first | rfl | (simp [ix]), by repeat (first | exact Below.refl _ _ | refine Below.alloc ?_ (by simp <;> omega) _)⟩
  | false =>
    have H := Lib.hid h
    have HN := Lib.hid (numB_false h)
    clear h
    go_enter Try.func8, Try.ntmps8
    go_wp2_with (go_at_call 19; refine (specStateValid _ _ _ _).mono ?_; rintro e w' ⟨rfl, rfl⟩; rw [H.out])
    go_ret
    exact ⟨by rw [HN.out]; rfl, by repeat (first | exact Below.refl _ _ | refine Below.alloc ?_ (by simp <;> omega) _)⟩
theorem implStateIndex (x y z : Int) (w : World) :
    Calls Try.prog 6 #[.agg #[.int .i64 x, .int .i64 y, .int .i64 z]] w fun e w' => e = .returned (.int .i64 (numB x y z)) ∧ Below w.heap.size w w' := by
  cases h : stB x y z with
  | true =>
    have H := Lib.hid h
    obtain ⟨_, _, _, _, _, _⟩ := of_stB h
    have HN := Lib.hid (numB_true h)
    clear h
    go_enter Try.func6, Try.ntmps6
    go_wp2_with (first
      | (go_at_call 10; refine (implStateValid _ _ _ _).mono ?_; rintro e w' ⟨rfl, rfl⟩; rw [H.out]))
    go_ret
    exact ⟨by rw [HN.out]; first | rfl | (simp [ix]), by repeat (first | exact Below.refl _ _ | refine Below.alloc ?_ (by simp <;> omega) _)⟩
  | false =>
    have H := Lib.hid h
    have HN := Lib.hid (numB_false h)
    clear h
    go_enter Try.func6, Try.ntmps6
    go_wp2_with (go_at_call 10; refine (implStateValid _ _ _ _).mono ?_; rintro e w' ⟨rfl, rfl⟩; rw [H.out])
    go_ret
    exact ⟨by rw [HN.out]; rfl, by repeat (first | exact Below.refl _ _ | refine Below.alloc ?_ (by simp <;> omega) _)⟩
theorem implStateAtIn (i : Int) (w : World) (h0 : 0 ≤ i) (h1 : i < 27) :
    Calls Try.prog 11 #[.int .i64 i] w fun e w' => e = .returned (.tuple #[.agg #[.int .i64 (sx i), .int .i64 (sy i), .int .i64 (sz i)], .bool true]) ∧ Below w.heap.size w w' := by
  have h2 : i ≤ 26 := by omega
  go_enter Try.func11, Try.ntmps11
  go_wp2_with (first | (go_at_call 23; refine (implAt _ _ h0 h1).mono ?_; rintro e w' ⟨rfl, rfl⟩) | go_in)
  exact bodyPost_ret (v := .tuple #[.agg #[.int .i64 (sx i), .int .i64 (sy i), .int .i64 (sz i)], .bool true]) (by simp [results, Try.results11, go_sem]) rfl ⟨rfl, by repeat (first | exact Below.refl _ _ | refine Below.alloc ?_ (by simp <;> omega) _)⟩
theorem implStateAtOut (i : Int) (w : World) (h : i < 0 ∨ 27 ≤ i) :
    Calls Try.prog 11 #[.int .i64 i] w fun e w' => e = .returned (.tuple #[.agg #[.int .i64 0, .int .i64 0, .int .i64 0], .bool false]) ∧ Below w.heap.size w w' := by
  rcases h with h | h
  · go_enter Try.func11, Try.ntmps11
    go_wp2
    exact bodyPost_ret (v := .tuple #[.agg #[.int .i64 0, .int .i64 0, .int .i64 0], .bool false]) (by simp [results, Try.results11, go_sem]) rfl ⟨rfl, by repeat (first | exact Below.refl _ _ | refine Below.alloc ?_ (by simp <;> omega) _)⟩
  · have h2 : 0 ≤ i := by omega
    have h3 : 26 < i := by omega
    have hd : decide (i ≤ 26) = false := by simpa using h3
    go_enter Try.func11, Try.ntmps11
    go_wp2
    exact bodyPost_ret (v := .tuple #[.agg #[.int .i64 0, .int .i64 0, .int .i64 0], .bool false]) (by simp [results, Try.results11, go_sem]) rfl ⟨rfl, by repeat (first | exact Below.refl _ _ | refine Below.alloc ?_ (by simp <;> omega) _)⟩
end Go.Proofs.Ytaimlfhbcgocnaa.Nu
