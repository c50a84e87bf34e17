/- Contracts: another value of a variable; and the walks of the laws on it, on counts and firsts. -/
import Derived.Test.YtinnkkhpgcmbhaaVar
import Derived.Test.YtinnkkhpgcmbhaaCount
import Derived.Test.YtinnkkhpgcmbhaaEnv
namespace Go.Proofs.Ytinnkkhpgcmbhaa.Co
open Go.RowKit Go.Proofs.Ytinnkkhpgcmbhaa.Ro Go.Proofs.Ytinnkkhpgcmbhaa.Bi Go.Proofs.Ytinnkkhpgcmbhaa.St Go.Proofs.Ytinnkkhpgcmbhaa.Se Go.Proofs.Ytinnkkhpgcmbhaa.Fi Go.Proofs.Ytinnkkhpgcmbhaa.Nu Go.Proofs.Ytinnkkhpgcmbhaa.Va Go.Proofs.Ytinnkkhpgcmbhaa.En
set_option linter.unusedVariables false

/-- The result's variable, behind calls that only laid blocks. -/
theorem res_after {w W w1 w2 : World} {t : TypeId} {x y z : Int} (hW : Below (w.heap.size + 2) (box (box w t x y z) t 0 0 0) W) (h1 : Below W.heap.size W w1) (h2 : Below w1.heap.size w1 w2) :
    Below w.heap.size w w2 ∧ w.heap.size + 1 < w2.heap.size ∧
    (w2.cell? ⟨w.heap.size + 1, 0, none⟩ = some (.int .i64 0) ∧ w2.cell? ⟨w.heap.size + 1, 1, none⟩ = some (.int .i64 0) ∧ w2.cell? ⟨w.heap.size + 1, 2, none⟩ = some (.int .i64 0)) ∧
    (w2.frozen? ⟨w.heap.size + 1, 0, none⟩ = false ∧ w2.frozen? ⟨w.heap.size + 1, 1, none⟩ = false ∧ w2.frozen? ⟨w.heap.size + 1, 2, none⟩ = false) := by
  have s0 := hW.size
  simp at s0
  have s1 := h1.size
  have s2 := h2.size
  have h : Below (w.heap.size + 2) (box (box w t x y z) t 0 0 0) w2 := hW.trans ((h1.mono s0).trans (h2.mono (by omega)))
  refine ⟨?_, by omega, ⟨?_, ?_, ?_⟩, ⟨?_, ?_, ?_⟩⟩
  · exact Below.trans (Below.alloc (Below.alloc (Below.refl _ _) (by omega) _) (by simp) _) (h.mono (by omega))
  all_goals first
    | (rw [h.cell (by simp)]; simp [World.cell?_alloc_at])
    | (rw [h.frozen (by simp)]; simp [World.frozen?_alloc_at])
set_option maxHeartbeats 2000000 in
theorem specSetBad (x y z : Int) (v : ByteArray) (n : Int) (w : World) (h : stB x y z = false) :
    Calls Try.prog 26 #[.agg #[.int .i64 x, .int .i64 y, .int .i64 z], .string v, .int .i64 n] w fun e w' => e = .returned (.tuple #[.agg #[.int .i64 0, .int .i64 0, .int .i64 0], .bool false]) ∧ Below w.heap.size w w' := by
  have HS := Lib.hid h; clear h
  have HV := HS
  go_enter Try.func26, Try.ntmps26
  go_wp2_with (first | (go_at_call 52; refine (specStateValid _ _ _ _).mono ?_; rintro e w' ⟨rfl, rfl⟩; rw [HS.out]) | (go_at_call 53; refine (specVar _ _).mono ?_; rintro e w' ⟨rfl, rfl⟩; rw [HV.out]) | go_in)
  exact bodyPost_ret (v := .tuple #[.agg #[.int .i64 0, .int .i64 0, .int .i64 0], .bool false]) (by simp [results, Try.results26, go_sem]) rfl ⟨rfl, by repeat (first | exact Below.refl _ _ | assumption | refine Below.alloc ?_ (by simp <;> omega) _ | refine Below.setCell ?_ (by simp) _ | refine Below.trans ?_ (Below.mono (by assumption) (by simp <;> omega)))⟩
set_option maxHeartbeats 2000000 in
theorem specSetNoVar (x y z : Int) (v : ByteArray) (n : Int) (w : World) (h : stB x y z = true) (hv : varNo v = -1) :
    Calls Try.prog 26 #[.agg #[.int .i64 x, .int .i64 y, .int .i64 z], .string v, .int .i64 n] w fun e w' => e = .returned (.tuple #[.agg #[.int .i64 0, .int .i64 0, .int .i64 0], .bool false]) ∧ Below w.heap.size w w' := by
  have HS := Lib.hid h; have HV := Lib.hid hv; clear h hv
  go_enter Try.func26, Try.ntmps26
  go_wp2_with (first | (go_at_call 52; refine (specStateValid _ _ _ _).mono ?_; rintro e w' ⟨rfl, rfl⟩; rw [HS.out]) | (go_at_call 53; refine (specVar _ _).mono ?_; rintro e w' ⟨rfl, rfl⟩; rw [HV.out]) | go_in)
  exact bodyPost_ret (v := .tuple #[.agg #[.int .i64 0, .int .i64 0, .int .i64 0], .bool false]) (by simp [results, Try.results26, go_sem]) rfl ⟨rfl, by repeat (first | exact Below.refl _ _ | assumption | refine Below.alloc ?_ (by simp <;> omega) _ | refine Below.setCell ?_ (by simp) _ | refine Below.trans ?_ (Below.mono (by assumption) (by simp <;> omega)))⟩
set_option maxHeartbeats 2000000 in
theorem specSetLow (x y z : Int) (v : ByteArray) (n : Int) (w : World) (h : stB x y z = true) (hv : 0 ≤ varNo v) (hn : n < 0) :
    Calls Try.prog 26 #[.agg #[.int .i64 x, .int .i64 y, .int .i64 z], .string v, .int .i64 n] w fun e w' => e = .returned (.tuple #[.agg #[.int .i64 0, .int .i64 0, .int .i64 0], .bool false]) ∧ Below w.heap.size w w' := by
  have HS := Lib.hid h; obtain ⟨m, hm⟩ := Int.eq_ofNat_of_zero_le hv; have HV := Lib.hid hm; clear h hv hm
  have hm0 : (0 : Int) ≤ (m : Int) := by omega
  have hd : decide (0 ≤ n) = false := by simpa using hn
  go_enter Try.func26, Try.ntmps26
  go_wp2_with (first | (go_at_call 52; refine (specStateValid _ _ _ _).mono ?_; rintro e w' ⟨rfl, rfl⟩; rw [HS.out]) | (go_at_call 53; refine (specVar _ _).mono ?_; rintro e w' ⟨rfl, rfl⟩; rw [HV.out]) | go_in)
  exact bodyPost_ret (v := .tuple #[.agg #[.int .i64 0, .int .i64 0, .int .i64 0], .bool false]) (by simp [results, Try.results26, go_sem]) rfl ⟨rfl, by repeat (first | exact Below.refl _ _ | assumption | refine Below.alloc ?_ (by simp <;> omega) _ | refine Below.setCell ?_ (by simp) _ | refine Below.trans ?_ (Below.mono (by assumption) (by simp <;> omega)))⟩
set_option maxHeartbeats 2000000 in
theorem specSetHigh (x y z : Int) (v : ByteArray) (n : Int) (w : World) (h : stB x y z = true) (hv : 0 ≤ varNo v) (hn : 3 ≤ n) :
    Calls Try.prog 26 #[.agg #[.int .i64 x, .int .i64 y, .int .i64 z], .string v, .int .i64 n] w fun e w' => e = .returned (.tuple #[.agg #[.int .i64 0, .int .i64 0, .int .i64 0], .bool false]) ∧ Below w.heap.size w w' := by
  have HS := Lib.hid h; obtain ⟨m, hm⟩ := Int.eq_ofNat_of_zero_le hv; have HV := Lib.hid hm; clear h hv hm
  have hm0 : (0 : Int) ≤ (m : Int) := by omega
  have hd : decide (n ≤ 2) = false := by simp; omega
  go_enter Try.func26, Try.ntmps26
  go_wp2_with (first | (go_at_call 52; refine (specStateValid _ _ _ _).mono ?_; rintro e w' ⟨rfl, rfl⟩; rw [HS.out]) | (go_at_call 53; refine (specVar _ _).mono ?_; rintro e w' ⟨rfl, rfl⟩; rw [HV.out]) | go_in)
  exact bodyPost_ret (v := .tuple #[.agg #[.int .i64 0, .int .i64 0, .int .i64 0], .bool false]) (by simp [results, Try.results26, go_sem]) rfl ⟨rfl, by repeat (first | exact Below.refl _ _ | assumption | refine Below.alloc ?_ (by simp <;> omega) _ | refine Below.setCell ?_ (by simp) _ | refine Below.trans ?_ (Below.mono (by assumption) (by simp <;> omega)))⟩
set_option maxHeartbeats 2000000 in
theorem specSetOk0 (x y z : Int) (n : Int) (w : World) (h : stB x y z = true) (h0 : 0 ≤ n) (h2 : n ≤ 2) :
    Calls Try.prog 26 #[.agg #[.int .i64 x, .int .i64 y, .int .i64 z], .string ⟨#[120]⟩, .int .i64 n] w fun e w' => e = .returned (.tuple #[.agg #[.int .i64 n, .int .i64 y, .int .i64 z], .bool true]) ∧ Below w.heap.size w w' := by
  have h3 : n < 3 := by omega
  have HS := Lib.hid h; clear h
  have HV := Lib.hid var_x
  go_enter Try.func26, Try.ntmps26
  go_wp2_with (first | (go_at_call 52; refine (specStateValid _ _ _ _).mono ?_; rintro e w' ⟨rfl, rfl⟩; rw [HS.out]) | (go_at_call 53; refine (specVar _ _).mono ?_; rintro e w' ⟨rfl, rfl⟩; rw [HV.out]) | (go_at_call 57; refine (specOne _ _ _ _).mono ?_; rintro e w' ⟨rfl, rfl⟩) | (go_at_call 56; refine (specSet0 _ _ _ _ _).mono ?_; rintro e w1 ⟨rfl, hb1⟩) | (go_at_call 55; refine (specState _ _ _ _ _ _ _).mono ?_; rintro e w2 ⟨rfl, hb2⟩; obtain ⟨hbw, hsz, hcs, hfs⟩ := res_after (w := w) (t := 29) (x := x) (y := y) (z := z) (by repeat (first | exact Below.refl _ _ | refine Below.alloc ?_ (by simp <;> omega) _)) hb1 hb2) | go_in)
  refine bodyPost_ret (v := .tuple #[.agg #[.int .i64 n, .int .i64 y, .int .i64 z], .bool true]) ?_ rfl ⟨rfl, ?_⟩
  · simp [results, Try.results26, go_sem, hcs]
  · exact ((hbw.setCell (show w.heap.size ≤ w.heap.size + 1 by omega) _).setCell (show w.heap.size ≤ w.heap.size + 1 by omega) _).setCell (show w.heap.size ≤ w.heap.size + 1 by omega) _
set_option maxHeartbeats 2000000 in
theorem specSetOk1 (x y z : Int) (n : Int) (w : World) (h : stB x y z = true) (h0 : 0 ≤ n) (h2 : n ≤ 2) :
    Calls Try.prog 26 #[.agg #[.int .i64 x, .int .i64 y, .int .i64 z], .string ⟨#[121]⟩, .int .i64 n] w fun e w' => e = .returned (.tuple #[.agg #[.int .i64 x, .int .i64 n, .int .i64 z], .bool true]) ∧ Below w.heap.size w w' := by
  have h3 : n < 3 := by omega
  have HS := Lib.hid h; clear h
  have HV := Lib.hid var_y
  go_enter Try.func26, Try.ntmps26
  go_wp2_with (first | (go_at_call 52; refine (specStateValid _ _ _ _).mono ?_; rintro e w' ⟨rfl, rfl⟩; rw [HS.out]) | (go_at_call 53; refine (specVar _ _).mono ?_; rintro e w' ⟨rfl, rfl⟩; rw [HV.out]) | (go_at_call 57; refine (specOne _ _ _ _).mono ?_; rintro e w' ⟨rfl, rfl⟩) | (go_at_call 56; refine (specSet1 _ _ _ _ _).mono ?_; rintro e w1 ⟨rfl, hb1⟩) | (go_at_call 55; refine (specState _ _ _ _ _ _ _).mono ?_; rintro e w2 ⟨rfl, hb2⟩; obtain ⟨hbw, hsz, hcs, hfs⟩ := res_after (w := w) (t := 29) (x := x) (y := y) (z := z) (by repeat (first | exact Below.refl _ _ | refine Below.alloc ?_ (by simp <;> omega) _)) hb1 hb2) | go_in)
  refine bodyPost_ret (v := .tuple #[.agg #[.int .i64 x, .int .i64 n, .int .i64 z], .bool true]) ?_ rfl ⟨rfl, ?_⟩
  · simp [results, Try.results26, go_sem, hcs]
  · exact ((hbw.setCell (show w.heap.size ≤ w.heap.size + 1 by omega) _).setCell (show w.heap.size ≤ w.heap.size + 1 by omega) _).setCell (show w.heap.size ≤ w.heap.size + 1 by omega) _
set_option maxHeartbeats 2000000 in
theorem specSetOk2 (x y z : Int) (n : Int) (w : World) (h : stB x y z = true) (h0 : 0 ≤ n) (h2 : n ≤ 2) :
    Calls Try.prog 26 #[.agg #[.int .i64 x, .int .i64 y, .int .i64 z], .string ⟨#[122]⟩, .int .i64 n] w fun e w' => e = .returned (.tuple #[.agg #[.int .i64 x, .int .i64 y, .int .i64 n], .bool true]) ∧ Below w.heap.size w w' := by
  have h3 : n < 3 := by omega
  have HS := Lib.hid h; clear h
  have HV := Lib.hid var_z
  go_enter Try.func26, Try.ntmps26
  go_wp2_with (first | (go_at_call 52; refine (specStateValid _ _ _ _).mono ?_; rintro e w' ⟨rfl, rfl⟩; rw [HS.out]) | (go_at_call 53; refine (specVar _ _).mono ?_; rintro e w' ⟨rfl, rfl⟩; rw [HV.out]) | (go_at_call 57; refine (specOne _ _ _ _).mono ?_; rintro e w' ⟨rfl, rfl⟩) | (go_at_call 56; refine (specSet2 _ _ _ _ _).mono ?_; rintro e w1 ⟨rfl, hb1⟩) | (go_at_call 55; refine (specState _ _ _ _ _ _ _).mono ?_; rintro e w2 ⟨rfl, hb2⟩; obtain ⟨hbw, hsz, hcs, hfs⟩ := res_after (w := w) (t := 29) (x := x) (y := y) (z := z) (by repeat (first | exact Below.refl _ _ | refine Below.alloc ?_ (by simp <;> omega) _)) hb1 hb2) | go_in)
  refine bodyPost_ret (v := .tuple #[.agg #[.int .i64 x, .int .i64 y, .int .i64 n], .bool true]) ?_ rfl ⟨rfl, ?_⟩
  · simp [results, Try.results26, go_sem, hcs]
  · exact ((hbw.setCell (show w.heap.size ≤ w.heap.size + 1 by omega) _).setCell (show w.heap.size ≤ w.heap.size + 1 by omega) _).setCell (show w.heap.size ≤ w.heap.size + 1 by omega) _
set_option maxHeartbeats 2000000 in
theorem implSetBad (x y z : Int) (v : ByteArray) (n : Int) (w : World) (h : stB x y z = false) :
    Calls Try.prog 28 #[.agg #[.int .i64 x, .int .i64 y, .int .i64 z], .string v, .int .i64 n] w fun e w' => e = .returned (.tuple #[.agg #[.int .i64 0, .int .i64 0, .int .i64 0], .bool false]) ∧ Below w.heap.size w w' := by
  have HS := Lib.hid h; clear h
  have HV := HS
  go_enter Try.func28, Try.ntmps28
  go_wp2_with (first | (go_at_call 58; refine (implStateValid _ _ _ _).mono ?_; rintro e w' ⟨rfl, rfl⟩; rw [HS.out]) | (go_at_call 59; refine (implIsVar _ _).mono ?_; rintro e w' ⟨rfl, rfl⟩; rw [HV.out]) | go_in)
  exact bodyPost_ret (v := .tuple #[.agg #[.int .i64 0, .int .i64 0, .int .i64 0], .bool false]) (by simp [results, Try.results28, go_sem]) rfl ⟨rfl, by repeat (first | exact Below.refl _ _ | assumption | refine Below.alloc ?_ (by simp <;> omega) _ | refine Below.setCell ?_ (by simp) _ | refine Below.trans ?_ (Below.mono (by assumption) (by simp <;> omega)))⟩
set_option maxHeartbeats 2000000 in
theorem implSetNoVar (x y z : Int) (v : ByteArray) (n : Int) (w : World) (h : stB x y z = true) (hv : varNo v = -1) :
    Calls Try.prog 28 #[.agg #[.int .i64 x, .int .i64 y, .int .i64 z], .string v, .int .i64 n] w fun e w' => e = .returned (.tuple #[.agg #[.int .i64 0, .int .i64 0, .int .i64 0], .bool false]) ∧ Below w.heap.size w w' := by
  have HS := Lib.hid h; have HV := Lib.hid hv; clear h hv
  go_enter Try.func28, Try.ntmps28
  go_wp2_with (first | (go_at_call 58; refine (implStateValid _ _ _ _).mono ?_; rintro e w' ⟨rfl, rfl⟩; rw [HS.out]) | (go_at_call 59; refine (implIsVar _ _).mono ?_; rintro e w' ⟨rfl, rfl⟩; rw [HV.out]) | go_in)
  exact bodyPost_ret (v := .tuple #[.agg #[.int .i64 0, .int .i64 0, .int .i64 0], .bool false]) (by simp [results, Try.results28, go_sem]) rfl ⟨rfl, by repeat (first | exact Below.refl _ _ | assumption | refine Below.alloc ?_ (by simp <;> omega) _ | refine Below.setCell ?_ (by simp) _ | refine Below.trans ?_ (Below.mono (by assumption) (by simp <;> omega)))⟩
set_option maxHeartbeats 2000000 in
theorem implSetLow (x y z : Int) (v : ByteArray) (n : Int) (w : World) (h : stB x y z = true) (hv : 0 ≤ varNo v) (hn : n < 0) :
    Calls Try.prog 28 #[.agg #[.int .i64 x, .int .i64 y, .int .i64 z], .string v, .int .i64 n] w fun e w' => e = .returned (.tuple #[.agg #[.int .i64 0, .int .i64 0, .int .i64 0], .bool false]) ∧ Below w.heap.size w w' := by
  have HS := Lib.hid h; have HV := Lib.hid (decide_eq_true hv); clear h hv
  go_enter Try.func28, Try.ntmps28
  go_wp2_with (first | (go_at_call 58; refine (implStateValid _ _ _ _).mono ?_; rintro e w' ⟨rfl, rfl⟩; rw [HS.out]) | (go_at_call 59; refine (implIsVar _ _).mono ?_; rintro e w' ⟨rfl, rfl⟩; rw [HV.out]) | go_in)
  exact bodyPost_ret (v := .tuple #[.agg #[.int .i64 0, .int .i64 0, .int .i64 0], .bool false]) (by simp [results, Try.results28, go_sem]) rfl ⟨rfl, by repeat (first | exact Below.refl _ _ | assumption | refine Below.alloc ?_ (by simp <;> omega) _ | refine Below.setCell ?_ (by simp) _ | refine Below.trans ?_ (Below.mono (by assumption) (by simp <;> omega)))⟩
set_option maxHeartbeats 2000000 in
theorem implSetHigh (x y z : Int) (v : ByteArray) (n : Int) (w : World) (h : stB x y z = true) (hv : 0 ≤ varNo v) (hn : 3 ≤ n) :
    Calls Try.prog 28 #[.agg #[.int .i64 x, .int .i64 y, .int .i64 z], .string v, .int .i64 n] w fun e w' => e = .returned (.tuple #[.agg #[.int .i64 0, .int .i64 0, .int .i64 0], .bool false]) ∧ Below w.heap.size w w' := by
  have HS := Lib.hid h; have HV := Lib.hid (decide_eq_true hv); clear h hv
  go_enter Try.func28, Try.ntmps28
  go_wp2_with (first | (go_at_call 58; refine (implStateValid _ _ _ _).mono ?_; rintro e w' ⟨rfl, rfl⟩; rw [HS.out]) | (go_at_call 59; refine (implIsVar _ _).mono ?_; rintro e w' ⟨rfl, rfl⟩; rw [HV.out]) | go_in)
  exact bodyPost_ret (v := .tuple #[.agg #[.int .i64 0, .int .i64 0, .int .i64 0], .bool false]) (by simp [results, Try.results28, go_sem]) rfl ⟨rfl, by repeat (first | exact Below.refl _ _ | assumption | refine Below.alloc ?_ (by simp <;> omega) _ | refine Below.setCell ?_ (by simp) _ | refine Below.trans ?_ (Below.mono (by assumption) (by simp <;> omega)))⟩
set_option maxHeartbeats 2000000 in
theorem implSetOk0 (x y z : Int) (n : Int) (w : World) (h : stB x y z = true) (h0 : 0 ≤ n) (h2 : n ≤ 2) :
    Calls Try.prog 28 #[.agg #[.int .i64 x, .int .i64 y, .int .i64 z], .string ⟨#[120]⟩, .int .i64 n] w fun e w' => e = .returned (.tuple #[.agg #[.int .i64 n, .int .i64 y, .int .i64 z], .bool true]) ∧ Below w.heap.size w w' := by
  have h3 : n < 3 := by omega
  have HS := Lib.hid h; clear h
  have HV := Lib.hid (show decide (0 ≤ varNo ⟨#[120]⟩) = true by rw [var_x]; decide)
  go_enter Try.func28, Try.ntmps28
  go_wp2_with (first | (go_at_call 58; refine (implStateValid _ _ _ _).mono ?_; rintro e w' ⟨rfl, rfl⟩; rw [HS.out]) | (go_at_call 59; refine (implIsVar _ _).mono ?_; rintro e w' ⟨rfl, rfl⟩; rw [HV.out]) | go_in)
  exact bodyPost_ret (v := .tuple #[.agg #[.int .i64 n, .int .i64 y, .int .i64 z], .bool true]) (by simp [results, Try.results28, go_sem]) rfl ⟨rfl, by repeat (first | exact Below.refl _ _ | assumption | refine Below.alloc ?_ (by simp <;> omega) _ | refine Below.setCell ?_ (by simp) _ | refine Below.trans ?_ (Below.mono (by assumption) (by simp <;> omega)))⟩
set_option maxHeartbeats 2000000 in
theorem implSetOk1 (x y z : Int) (n : Int) (w : World) (h : stB x y z = true) (h0 : 0 ≤ n) (h2 : n ≤ 2) :
    Calls Try.prog 28 #[.agg #[.int .i64 x, .int .i64 y, .int .i64 z], .string ⟨#[121]⟩, .int .i64 n] w fun e w' => e = .returned (.tuple #[.agg #[.int .i64 x, .int .i64 n, .int .i64 z], .bool true]) ∧ Below w.heap.size w w' := by
  have h3 : n < 3 := by omega
  have HS := Lib.hid h; clear h
  have HV := Lib.hid (show decide (0 ≤ varNo ⟨#[121]⟩) = true by rw [var_y]; decide)
  go_enter Try.func28, Try.ntmps28
  go_wp2_with (first | (go_at_call 58; refine (implStateValid _ _ _ _).mono ?_; rintro e w' ⟨rfl, rfl⟩; rw [HS.out]) | (go_at_call 59; refine (implIsVar _ _).mono ?_; rintro e w' ⟨rfl, rfl⟩; rw [HV.out]) | go_in)
  exact bodyPost_ret (v := .tuple #[.agg #[.int .i64 x, .int .i64 n, .int .i64 z], .bool true]) (by simp [results, Try.results28, go_sem]) rfl ⟨rfl, by repeat (first | exact Below.refl _ _ | assumption | refine Below.alloc ?_ (by simp <;> omega) _ | refine Below.setCell ?_ (by simp) _ | refine Below.trans ?_ (Below.mono (by assumption) (by simp <;> omega)))⟩
set_option maxHeartbeats 2000000 in
theorem implSetOk2 (x y z : Int) (n : Int) (w : World) (h : stB x y z = true) (h0 : 0 ≤ n) (h2 : n ≤ 2) :
    Calls Try.prog 28 #[.agg #[.int .i64 x, .int .i64 y, .int .i64 z], .string ⟨#[122]⟩, .int .i64 n] w fun e w' => e = .returned (.tuple #[.agg #[.int .i64 x, .int .i64 y, .int .i64 n], .bool true]) ∧ Below w.heap.size w w' := by
  have h3 : n < 3 := by omega
  have HS := Lib.hid h; clear h
  have HV := Lib.hid (show decide (0 ≤ varNo ⟨#[122]⟩) = true by rw [var_z]; decide)
  go_enter Try.func28, Try.ntmps28
  go_wp2_with (first | (go_at_call 58; refine (implStateValid _ _ _ _).mono ?_; rintro e w' ⟨rfl, rfl⟩; rw [HS.out]) | (go_at_call 59; refine (implIsVar _ _).mono ?_; rintro e w' ⟨rfl, rfl⟩; rw [HV.out]) | go_in)
  exact bodyPost_ret (v := .tuple #[.agg #[.int .i64 x, .int .i64 y, .int .i64 n], .bool true]) (by simp [results, Try.results28, go_sem]) rfl ⟨rfl, by repeat (first | exact Below.refl _ _ | assumption | refine Below.alloc ?_ (by simp <;> omega) _ | refine Below.setCell ?_ (by simp) _ | refine Below.trans ?_ (Below.mono (by assumption) (by simp <;> omega)))⟩
end Go.Proofs.Ytinnkkhpgcmbhaa.Co
