/- Contracts: a state with another value of a variable (l2With, withValue). -/
import Derived.Test.YtkajfjbdlkkieaaDoorNum
import Derived.Test.YtkajfjbdlkkieaaDoorEnv
import Derived.Deep.QuietTactic
import Derived.BigQuiet
import Derived.Lib.QuietBelow
namespace Go.Proofs.YtkajfjbdlkkieaaDoor.Wt
open Go.RowKit Go.Deep Go.Sort Go.Proofs.YtkajfjbdlkkieaaDoor.Bi Go.Proofs.YtkajfjbdlkkieaaDoor.Ro Go.Proofs.YtkajfjbdlkkieaaDoor.Se Go.Proofs.YtkajfjbdlkkieaaDoor.St Go.Proofs.YtkajfjbdlkkieaaDoor.En Go.Proofs.YtkajfjbdlkkieaaDoor.Nu
set_option linter.unusedVariables false

theorem res_after {w W w1 w2 : World} {t : TypeId} {x y z : Int} (hW : Below (w.heap.size + 2) (box (box w t x y z) t 0 0 0) W) (h1 : Below W.heap.size W w1) (h2 : Below w1.heap.size w1 w2) :
    Below w.heap.size w w2 ∧ w.heap.size + 1 < w2.heap.size ∧
    (w2.cell? ⟨w.heap.size + 1, 0, none⟩ = some (.int .i64 0) ∧ w2.cell? ⟨w.heap.size + 1, 1, none⟩ = some (.int .i64 0) ∧ w2.cell? ⟨w.heap.size + 1, 2, none⟩ = some (.int .i64 0)) ∧
    (w2.frozen? ⟨w.heap.size + 1, 0, none⟩ = false ∧ w2.frozen? ⟨w.heap.size + 1, 1, none⟩ = false ∧ w2.frozen? ⟨w.heap.size + 1, 2, none⟩ = false) := by
  have s0 := hW.size
  simp at s0
  have s1 := h1.size
  have s2 := h2.size
  have h : Below (w.heap.size + 2) (box (box w t x y z) t 0 0 0) w2 := hW.trans ((h1.mono s0).trans (h2.mono (by omega)))
  refine ⟨?_, by omega, ⟨?_, ?_, ?_⟩, ⟨?_, ?_, ?_⟩⟩
  · exact Below.trans (Below.alloc (Below.alloc (Below.refl _ _) (by omega) _) (by simp) _) (h.mono (by omega))
  all_goals first
    | (rw [h.cell (by simp)]; simp [World.cell?_alloc_at])
    | (rw [h.frozen (by simp)]; simp [World.frozen?_alloc_at])
/-- The number of a state with another value of a variable. -/
def wvI (k : Nat) (i n : Int) : Int := if k = 0 then ix n (sy i) (sz i) else if k = 1 then ix (sx i) n (sz i) else ix (sx i) (sy i) n
theorem wv_range (k : Nat) {i n : Int} (h0 : 0 ≤ i) (h1 : i < 27) (n0 : 0 ≤ n) (n1 : n < 3) : 0 ≤ wvI k i n ∧ wvI k i n < 27 := by
  unfold wvI ix sx sy sz
  split
  · omega
  · split <;> omega
def wvN (k i n : Nat) : Nat := (wvI k i n).toNat
theorem wv_nat (k : Nat) {i n : Nat} (h1 : i < 27) (n1 : n < 3) : wvI k i n = (wvN k i n : Int) ∧ wvN k i n < 27 := by
  have := wv_range k (i := i) (n := n) (by omega) (by omega) (by omega) (by omega)
  unfold wvN
  omega
set_option maxHeartbeats 2000000 in
theorem specWith0 (x y z n : Int) (w : World) :
    Calls Tryd.prog 42 #[.agg #[.int .i64 x, .int .i64 y, .int .i64 z], .int .i64 0, .int .i64 n] w fun e w' => e = .returned (.agg #[.int .i64 n, .int .i64 y, .int .i64 z]) ∧ Below w.heap.size w w' := by
  go_enter Tryd.func42, Tryd.ntmps42
  go_wp2_with (first | (go_at_call 41; refine (specOne _ _ _ _).mono ?_; rintro e w' ⟨rfl, rfl⟩) | (go_at_call 54; refine (specSet0 _ _ _ _ _).mono ?_; rintro e w1 ⟨rfl, hb1⟩) | (go_at_call 53; refine (specState _ _ _ _ _ _ _).mono ?_; rintro e w2 ⟨rfl, hb2⟩; obtain ⟨hbw, hsz, hcs, hfs⟩ := res_after (w := w) (t := 31) (x := x) (y := y) (z := z) (by repeat (first | exact Below.refl _ _ | refine Below.alloc ?_ (by simp <;> omega) _)) hb1 hb2))
  refine bodyPost_ret (v := .agg #[.int .i64 n, .int .i64 y, .int .i64 z]) ?_ rfl ⟨rfl, ?_⟩
  · simp [results, Tryd.results42, go_sem, hcs]
  · exact ((hbw.setCell (show w.heap.size ≤ w.heap.size + 1 by omega) _).setCell (show w.heap.size ≤ w.heap.size + 1 by omega) _).setCell (show w.heap.size ≤ w.heap.size + 1 by omega) _
set_option maxHeartbeats 2000000 in
theorem specWith1 (x y z n : Int) (w : World) :
    Calls Tryd.prog 42 #[.agg #[.int .i64 x, .int .i64 y, .int .i64 z], .int .i64 1, .int .i64 n] w fun e w' => e = .returned (.agg #[.int .i64 x, .int .i64 n, .int .i64 z]) ∧ Below w.heap.size w w' := by
  go_enter Tryd.func42, Tryd.ntmps42
  go_wp2_with (first | (go_at_call 41; refine (specOne _ _ _ _).mono ?_; rintro e w' ⟨rfl, rfl⟩) | (go_at_call 54; refine (specSet1 _ _ _ _ _).mono ?_; rintro e w1 ⟨rfl, hb1⟩) | (go_at_call 53; refine (specState _ _ _ _ _ _ _).mono ?_; rintro e w2 ⟨rfl, hb2⟩; obtain ⟨hbw, hsz, hcs, hfs⟩ := res_after (w := w) (t := 31) (x := x) (y := y) (z := z) (by repeat (first | exact Below.refl _ _ | refine Below.alloc ?_ (by simp <;> omega) _)) hb1 hb2))
  refine bodyPost_ret (v := .agg #[.int .i64 x, .int .i64 n, .int .i64 z]) ?_ rfl ⟨rfl, ?_⟩
  · simp [results, Tryd.results42, go_sem, hcs]
  · exact ((hbw.setCell (show w.heap.size ≤ w.heap.size + 1 by omega) _).setCell (show w.heap.size ≤ w.heap.size + 1 by omega) _).setCell (show w.heap.size ≤ w.heap.size + 1 by omega) _
set_option maxHeartbeats 2000000 in
theorem specWith2 (x y z n : Int) (w : World) :
    Calls Tryd.prog 42 #[.agg #[.int .i64 x, .int .i64 y, .int .i64 z], .int .i64 2, .int .i64 n] w fun e w' => e = .returned (.agg #[.int .i64 x, .int .i64 y, .int .i64 n]) ∧ Below w.heap.size w w' := by
  go_enter Tryd.func42, Tryd.ntmps42
  go_wp2_with (first | (go_at_call 41; refine (specOne _ _ _ _).mono ?_; rintro e w' ⟨rfl, rfl⟩) | (go_at_call 54; refine (specSet2 _ _ _ _ _).mono ?_; rintro e w1 ⟨rfl, hb1⟩) | (go_at_call 53; refine (specState _ _ _ _ _ _ _).mono ?_; rintro e w2 ⟨rfl, hb2⟩; obtain ⟨hbw, hsz, hcs, hfs⟩ := res_after (w := w) (t := 31) (x := x) (y := y) (z := z) (by repeat (first | exact Below.refl _ _ | refine Below.alloc ?_ (by simp <;> omega) _)) hb1 hb2))
  refine bodyPost_ret (v := .agg #[.int .i64 x, .int .i64 y, .int .i64 n]) ?_ rfl ⟨rfl, ?_⟩
  · simp [results, Tryd.results42, go_sem, hcs]
  · exact ((hbw.setCell (show w.heap.size ≤ w.heap.size + 1 by omega) _).setCell (show w.heap.size ≤ w.heap.size + 1 by omega) _).setCell (show w.heap.size ≤ w.heap.size + 1 by omega) _
def strideAt (w : World) : Prop := w.cell? ⟨0, 0, none⟩ = some (.int .i64 1) ∧ w.cell? ⟨0, 1, none⟩ = some (.int .i64 3) ∧ w.cell? ⟨0, 2, none⟩ = some (.int .i64 9)
theorem stride_below {w w' : World} (h : strideAt w) (hb : Below w.heap.size w w') : strideAt w' := by
  have hl := block_lt_of_cell h.1
  exact ⟨(hb.cell (p := ⟨0, 0, none⟩) hl).trans h.1, (hb.cell (p := ⟨0, 1, none⟩) hl).trans h.2.1, (hb.cell (p := ⟨0, 2, none⟩) hl).trans h.2.2⟩
theorem implWith0 (i n : Int) (w : World) (h0 : 0 ≤ i) (h1 : i < 27) (n0 : 0 ≤ n) (n1 : n < 3) (hst : strideAt w) :
    Calls Tryd.prog 45 #[.int .i64 i, .int .i64 0, .int .i64 n] w fun e w' => e = .returned (.int .i64 (wvI 0 i n)) ∧ ∃ m, w' = w.drewN m := by
  obtain ⟨c0, c1, c2⟩ := hst
  have hr := wv_range 0 h0 h1 n0 n1
  have HV := Lib.hid (show wvI 0 i n = i + (n - i % 3) by simp [wvI, ix, sx, sy, sz]; omega)
  have h9 : 0 ≤ i % 3 ∧ i % 3 < 3 := by omega
  have h8 := HV.out
  rw [h8] at hr
  clear h8
  go_enter Tryd.func45, Tryd.ntmps45
  go_wp2_with fail
  go_quiet (fail)
  go_wp2_with fail
  go_ret
  exact ⟨by rw [HV.out]; rfl, _, rfl⟩
theorem implWith1 (i n : Int) (w : World) (h0 : 0 ≤ i) (h1 : i < 27) (n0 : 0 ≤ n) (n1 : n < 3) (hst : strideAt w) :
    Calls Tryd.prog 45 #[.int .i64 i, .int .i64 1, .int .i64 n] w fun e w' => e = .returned (.int .i64 (wvI 1 i n)) ∧ ∃ m, w' = w.drewN m := by
  obtain ⟨c0, c1, c2⟩ := hst
  have hr := wv_range 1 h0 h1 n0 n1
  have HV := Lib.hid (show wvI 1 i n = i + (n - i / 3 % 3) * 3 by simp [wvI, ix, sx, sy, sz]; omega)
  have h9 : 0 ≤ i / 3 % 3 ∧ i / 3 % 3 < 3 := by omega
  have h8 := HV.out
  rw [h8] at hr
  clear h8
  go_enter Tryd.func45, Tryd.ntmps45
  go_wp2_with fail
  go_quiet (fail)
  go_wp2_with fail
  go_ret
  exact ⟨by rw [HV.out]; rfl, _, rfl⟩
theorem implWith2 (i n : Int) (w : World) (h0 : 0 ≤ i) (h1 : i < 27) (n0 : 0 ≤ n) (n1 : n < 3) (hst : strideAt w) :
    Calls Tryd.prog 45 #[.int .i64 i, .int .i64 2, .int .i64 n] w fun e w' => e = .returned (.int .i64 (wvI 2 i n)) ∧ ∃ m, w' = w.drewN m := by
  obtain ⟨c0, c1, c2⟩ := hst
  have hr := wv_range 2 h0 h1 n0 n1
  have HV := Lib.hid (show wvI 2 i n = i + (n - i / 9 % 3) * 9 by simp [wvI, ix, sx, sy, sz]; omega)
  have h9 : 0 ≤ i / 9 % 3 ∧ i / 9 % 3 < 3 := by omega
  have h8 := HV.out
  rw [h8] at hr
  clear h8
  go_enter Tryd.func45, Tryd.ntmps45
  go_wp2_with fail
  go_quiet (fail)
  go_wp2_with fail
  go_ret
  exact ⟨by rw [HV.out]; rfl, _, rfl⟩
theorem specWith (v : Nat) (x y z n : Int) (w : World) (hv : v < 3) :
    Calls Tryd.prog 42 #[.agg #[.int .i64 x, .int .i64 y, .int .i64 z], .int .i64 (v : Int), .int .i64 n] w fun e w' => e = .returned (.agg #[.int .i64 (if v = 0 then n else x), .int .i64 (if v = 1 then n else y), .int .i64 (if v = 2 then n else z)]) ∧ Below w.heap.size w w' := by
  rcases (by omega : v = 0 ∨ v = 1 ∨ v = 2) with rfl | rfl | rfl
  · exact specWith0 x y z n w
  · exact specWith1 x y z n w
  · exact specWith2 x y z n w
theorem st_ok (v : Nat) (i n : Nat) (h1 : i < 27) (n1 : n < 3) : stB (if v = 0 then (n : Int) else sx i) (if v = 1 then (n : Int) else sy i) (if v = 2 then (n : Int) else sz i) = true := by
  have := s_range (i := i) (by omega) (by omega)
  refine stB_true ?_
  refine ⟨?_, ?_, ?_, ?_, ?_, ?_⟩ <;> split <;> omega
theorem ix_wv (v : Nat) (i n : Nat) (hv : v < 3) (h1 : i < 27) (n1 : n < 3) : ix (if v = 0 then (n : Int) else sx i) (if v = 1 then (n : Int) else sy i) (if v = 2 then (n : Int) else sz i) = (wvN v i n : Int) := by
  rw [← (wv_nat v h1 n1).1]
  rcases (by omega : v = 0 ∨ v = 1 ∨ v = 2) with rfl | rfl | rfl <;> rfl
theorem implWith (k : Nat) (i n : Int) (w : World) (hk : k < 3) (h0 : 0 ≤ i) (h1 : i < 27) (n0 : 0 ≤ n) (n1 : n < 3) (hst : strideAt w) :
    Calls Tryd.prog 45 #[.int .i64 i, .int .i64 (k : Int), .int .i64 n] w fun e w' => e = .returned (.int .i64 (wvI k i n)) ∧ ∃ m, w' = w.drewN m := by
  rcases (by omega : k = 0 ∨ k = 1 ∨ k = 2) with rfl | rfl | rfl
  · exact implWith0 i n w h0 h1 n0 n1 hst
  · exact implWith1 i n w h0 h1 n0 n1 hst
  · exact implWith2 i n w h0 h1 n0 n1 hst
end Go.Proofs.YtkajfjbdlkkieaaDoor.Wt
