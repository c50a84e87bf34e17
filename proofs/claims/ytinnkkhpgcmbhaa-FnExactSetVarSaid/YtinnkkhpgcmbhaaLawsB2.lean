/- The walks of laws: counts, firsts, another value of a variable. -/
import Derived.Test.YtinnkkhpgcmbhaaSetV
namespace Go.Proofs.Ytinnkkhpgcmbhaa.La2
open Go.RowKit Go.Proofs.Ytinnkkhpgcmbhaa.Ro Go.Proofs.Ytinnkkhpgcmbhaa.Bi Go.Proofs.Ytinnkkhpgcmbhaa.St Go.Proofs.Ytinnkkhpgcmbhaa.Se Go.Proofs.Ytinnkkhpgcmbhaa.Fi Go.Proofs.Ytinnkkhpgcmbhaa.Nu Go.Proofs.Ytinnkkhpgcmbhaa.Va Go.Proofs.Ytinnkkhpgcmbhaa.Co
set_option linter.unusedVariables false

theorem grew {w w1 w2 : World} (h : Below w.heap.size w w1) (h' : Below w1.heap.size w1 w2) : Below w.heap.size w w2 := h.trans (h'.mono h.size)
theorem grewA {w w1 : World} (h : Below w.heap.size w w1) (o : Obj) : Below w.heap.size w (w1.alloc o) := h.alloc h.size o
theorem box_after (w : World) (t : TypeId) (x y z : Int) {W w1 : World} (hb : Below W.heap.size W w1) (hW : Below (w.heap.size + 1) (box w t x y z) W) :
    w1.cell? ⟨w.heap.size, 0, none⟩ = some (.int .i64 x) ∧ w1.cell? ⟨w.heap.size, 1, none⟩ = some (.int .i64 y) ∧ w1.cell? ⟨w.heap.size, 2, none⟩ = some (.int .i64 z) := by
  have hs := hW.size
  simp at hs
  have h : Below (w.heap.size + 1) (box w t x y z) w1 := hW.trans (hb.mono hs)
  refine ⟨?_, ?_, ?_⟩ <;> (rw [h.cell (by simp)]; simp [World.cell?_alloc_at])
theorem box2_after (w : World) (t : TypeId) (x y z a b c : Int) {W w1 : World} (hb : Below W.heap.size W w1) (hW : Below (w.heap.size + 2) (box (box w t x y z) t a b c) W) :
    (w1.cell? ⟨w.heap.size, 0, none⟩ = some (.int .i64 x) ∧ w1.cell? ⟨w.heap.size, 1, none⟩ = some (.int .i64 y) ∧ w1.cell? ⟨w.heap.size, 2, none⟩ = some (.int .i64 z)) ∧
    (w1.cell? ⟨w.heap.size + 1, 0, none⟩ = some (.int .i64 a) ∧ w1.cell? ⟨w.heap.size + 1, 1, none⟩ = some (.int .i64 b) ∧ w1.cell? ⟨w.heap.size + 1, 2, none⟩ = some (.int .i64 c)) := by
  have hs := hW.size
  simp at hs
  have h : Below (w.heap.size + 2) (box (box w t x y z) t a b c) w1 := hW.trans (hb.mono hs)
  refine ⟨⟨?_, ?_, ?_⟩, ⟨?_, ?_, ?_⟩⟩ <;> (rw [h.cell (by simp)]; simp [World.cell?_alloc_at, World.cell?_alloc_past])
theorem lawCountPred (s : ByteArray) (w : World) (hs : s.size ≤ maxLen) :
    Calls Try.prog 12 #[.string s] w fun e w' => e = .returned (.bool true) ∧ Below w.heap.size w w' := by
  have hs' := hs
  unfold maxLen at hs'
  by_cases hbig : s.size ≤ 1048576
  case neg =>
    go_enter Try.func12, Try.ntmps12
    go_wp2
    go_ret
    exact ⟨rfl, by repeat (first | exact Below.refl _ _ | assumption | refine grewA ?_ _ | refine grew ?_ (by assumption))⟩
  go_enter Try.func12, Try.ntmps12
  go_wp2_with (first
    | (go_at_call 34; refine (specCountPred _ _ hbig).mono ?_; rintro e w' ⟨rfl, rfl⟩)
    | (go_at_call 35; refine (implCountPred _ _ hbig).mono ?_; rintro e w' ⟨rfl, rfl⟩))
  go_ret
  exact ⟨by simp, Below.refl _ _⟩
theorem lawCountRel (s : ByteArray) (w : World) (hs : s.size ≤ maxLen) :
    Calls Try.prog 13 #[.string s] w fun e w' => e = .returned (.bool true) ∧ Below w.heap.size w w' := by
  have hs' := hs
  unfold maxLen at hs'
  by_cases hbig : s.size ≤ 1048576
  case neg =>
    go_enter Try.func13, Try.ntmps13
    go_wp2
    go_ret
    exact ⟨rfl, by repeat (first | exact Below.refl _ _ | assumption | refine grewA ?_ _ | refine grew ?_ (by assumption))⟩
  go_enter Try.func13, Try.ntmps13
  go_wp2_with (first
    | (go_at_call 36; refine (specCountRel _ _ hbig).mono ?_; rintro e w' ⟨rfl, rfl⟩)
    | (go_at_call 37; refine (implCountRel _ _ hbig).mono ?_; rintro e w' ⟨rfl, rfl⟩))
  go_ret
  exact ⟨by simp, Below.refl _ _⟩
set_option maxHeartbeats 2000000 in
theorem lawFirstState (s : ByteArray) (w : World) (hs : s.size ≤ maxLen) :
    Calls Try.prog 10 #[.string s] w fun e w' => e = .returned (.bool true) ∧ Below w.heap.size w w' := by
  have hs' := hs
  unfold maxLen at hs'
  by_cases hbig : s.size ≤ 1048576
  case neg =>
    go_enter Try.func10, Try.ntmps10
    go_wp2
    go_ret
    exact ⟨rfl, by repeat (first | exact Below.refl _ _ | assumption | refine grewA ?_ _ | refine grew ?_ (by assumption))⟩
  cases hv : bitsB s 27 with
  | false =>
    have HV := Lib.hid hv; clear hv
    go_enter Try.func10, Try.ntmps10
    go_wp2_with (first
      | (go_at_call 30; refine (specFirstNot _ _ hbig HV.out).mono ?_; rintro e w1 ⟨rfl, hb1⟩)
      | (go_at_call 31; refine (implFirstNot _ _ hbig HV.out).mono ?_; rintro e w2 ⟨rfl, hb2⟩; have cb := box_after w1 29 (0) (0) (0) hb2 (Below.refl _ _); have hs2 : w1.heap.size < w2.heap.size := by (have := hb2.size; simp at this; omega))
      | (go_at_call 29; refine (eqState _ _ _ _).mono ?_; rintro e w3 ⟨rfl, rfl⟩))
    go_ret
    exact ⟨by simp, grewA (grewA (grewA (grew (grewA hb1 _) hb2) _) _) _⟩
  | true =>
    by_cases h0 : onesTo s s.size = 0
    · have HV := Lib.hid hv; have H0 := Lib.hid h0; clear hv h0
      go_enter Try.func10, Try.ntmps10
      go_wp2_with (first
        | (go_at_call 30; refine (specFirstNone _ _ hbig HV.out H0.out).mono ?_; rintro e w1 ⟨rfl, hb1⟩)
        | (go_at_call 31; refine (implFirstNone _ _ hbig HV.out H0.out).mono ?_; rintro e w2 ⟨rfl, hb2⟩; have cb := box_after w1 29 (0) (0) (0) hb2 (Below.refl _ _); have hs2 : w1.heap.size < w2.heap.size := by (have := hb2.size; simp at this; omega))
        | (go_at_call 29; refine (eqState _ _ _ _).mono ?_; rintro e w3 ⟨rfl, rfl⟩))
      go_ret
      exact ⟨by simp, grewA (grewA (grewA (grew (grewA hb1 _) hb2) _) _) _⟩
    · obtain ⟨m, hm⟩ := Int.eq_ofNat_of_zero_le (idx_some h0).1
      have HV := Lib.hid hv; have H0 := Lib.hid h0; have HM := Lib.hid hm; clear hv h0 hm
      go_enter Try.func10, Try.ntmps10
      go_wp2_with (first
        | (go_at_call 30; refine (specFirstSome _ m _ hbig HV.out H0.out HM.out).mono ?_; rintro e w1 ⟨rfl, hb1⟩)
        | (go_at_call 31; refine (implFirstSome _ m _ hbig HV.out H0.out HM.out).mono ?_; rintro e w2 ⟨rfl, hb2⟩; have cb := box_after w1 29 (sx m) (sy m) (sz m) hb2 (Below.refl _ _); have hs2 : w1.heap.size < w2.heap.size := by (have := hb2.size; simp at this; omega))
        | (go_at_call 29; refine (eqState _ _ _ _).mono ?_; rintro e w3 ⟨rfl, rfl⟩))
      go_ret
      exact ⟨by simp, grewA (grewA (grewA (grew (grewA hb1 _) hb2) _) _) _⟩
set_option maxHeartbeats 4000000 in
theorem lawFirstPair (s : ByteArray) (w : World) (hs : s.size ≤ maxLen) :
    Calls Try.prog 11 #[.string s] w fun e w' => e = .returned (.bool true) ∧ Below w.heap.size w w' := by
  have hs' := hs
  unfold maxLen at hs'
  by_cases hbig : s.size ≤ 1048576
  case neg =>
    go_enter Try.func11, Try.ntmps11
    go_wp2
    go_ret
    exact ⟨rfl, by repeat (first | exact Below.refl _ _ | assumption | refine grewA ?_ _ | refine grew ?_ (by assumption))⟩
  cases hv : bitsB s 729 with
  | false =>
    have HV := Lib.hid hv; clear hv
    go_enter Try.func11, Try.ntmps11
    go_wp2_with (first
      | (go_at_call 32; refine (specPairNot _ _ hbig HV.out).mono ?_; rintro e w1 ⟨rfl, hb1⟩)
      | (go_at_call 33; refine (implPairNot _ _ hbig HV.out).mono ?_; rintro e w2 ⟨rfl, hb2⟩; have cb := box2_after w1 29 (0) (0) (0) (0) (0) (0) hb2 (Below.refl _ _); have hs2 : w1.heap.size + 1 < w2.heap.size := (by (have := hb2.size; simp at this; omega)); have hs3 : w1.heap.size < w2.heap.size := (by omega); have hs4 : w1.heap.size < w2.heap.size + 1 := (by omega); have hs5 : w1.heap.size < w2.heap.size + 1 + 1 := (by omega); have hs6 : w1.heap.size < w2.heap.size + 1 + 1 + 1 := (by omega))
      | (go_at_call 29; refine (eqState _ _ _ _).mono ?_; rintro e w3 ⟨rfl, rfl⟩))
    go_ret
    exact ⟨by simp, by repeat (first | exact hb1 | refine grewA ?_ _ | refine grew ?_ hb2)⟩
  | true =>
    by_cases h0 : onesTo s s.size = 0
    · have HV := Lib.hid hv; have H0 := Lib.hid h0; clear hv h0
      go_enter Try.func11, Try.ntmps11
      go_wp2_with (first
        | (go_at_call 32; refine (specPairNone _ _ hbig HV.out H0.out).mono ?_; rintro e w1 ⟨rfl, hb1⟩)
        | (go_at_call 33; refine (implPairNone _ _ hbig HV.out H0.out).mono ?_; rintro e w2 ⟨rfl, hb2⟩; have cb := box2_after w1 29 (0) (0) (0) (0) (0) (0) hb2 (Below.refl _ _); have hs2 : w1.heap.size + 1 < w2.heap.size := (by (have := hb2.size; simp at this; omega)); have hs3 : w1.heap.size < w2.heap.size := (by omega); have hs4 : w1.heap.size < w2.heap.size + 1 := (by omega); have hs5 : w1.heap.size < w2.heap.size + 1 + 1 := (by omega); have hs6 : w1.heap.size < w2.heap.size + 1 + 1 + 1 := (by omega))
        | (go_at_call 29; refine (eqState _ _ _ _).mono ?_; rintro e w3 ⟨rfl, rfl⟩))
      go_ret
      exact ⟨by simp, by repeat (first | exact hb1 | refine grewA ?_ _ | refine grew ?_ hb2)⟩
    · obtain ⟨m, hm⟩ := Int.eq_ofNat_of_zero_le (idx_some h0).1
      have HV := Lib.hid hv; have H0 := Lib.hid h0; have HM := Lib.hid hm; clear hv h0 hm
      go_enter Try.func11, Try.ntmps11
      go_wp2_with (first
        | (go_at_call 32; refine (specPairSome _ m _ hbig HV.out H0.out HM.out).mono ?_; rintro e w1 ⟨rfl, hb1⟩)
        | (go_at_call 33; refine (implPairSome _ m _ hbig HV.out H0.out HM.out).mono ?_; rintro e w2 ⟨rfl, hb2⟩; have cb := box2_after w1 29 (sx (m / 27)) (sy (m / 27)) (sz (m / 27)) (sx (m % 27)) (sy (m % 27)) (sz (m % 27)) hb2 (Below.refl _ _); have hs2 : w1.heap.size + 1 < w2.heap.size := (by (have := hb2.size; simp at this; omega)); have hs3 : w1.heap.size < w2.heap.size := (by omega); have hs4 : w1.heap.size < w2.heap.size + 1 := (by omega); have hs5 : w1.heap.size < w2.heap.size + 1 + 1 := (by omega); have hs6 : w1.heap.size < w2.heap.size + 1 + 1 + 1 := (by omega))
        | (go_at_call 29; refine (eqState _ _ _ _).mono ?_; rintro e w3 ⟨rfl, rfl⟩))
      go_ret
      exact ⟨by simp, by repeat (first | exact hb1 | refine grewA ?_ _ | refine grew ?_ hb2)⟩
set_option maxHeartbeats 4000000 in
theorem lawSetVar (x y z : Int) (v : ByteArray) (n : Int) (w : World) (wx : (Lit.int .i64 x).wf = true) (wy : (Lit.int .i64 y).wf = true) (wz : (Lit.int .i64 z).wf = true) (hs : v.size ≤ maxLen) (wn : (Lit.int .i64 n).wf = true) :
    Calls Try.prog 9 #[.agg #[.int .i64 x, .int .i64 y, .int .i64 z], .string v, .int .i64 n] w fun e w' => e = .returned (.bool true) ∧ Below w.heap.size w w' := by
  have hs' := hs
  unfold maxLen at hs'
  by_cases hbig : v.size ≤ 1048576
  case neg =>
    go_enter Try.func9, Try.ntmps9
    go_wp2
    go_ret
    exact ⟨rfl, by repeat (first | exact Below.refl _ _ | assumption | refine grewA ?_ _ | refine grew ?_ (by assumption))⟩
  cases hst : stB x y z with
  | false =>
    have HST := Lib.hid hst; clear hst
    go_enter Try.func9, Try.ntmps9
    go_wp2_with (first
      | (go_at_call 27; refine (toState _ _ _ _).mono ?_; rintro e w' ⟨rfl, rfl⟩)
      | (go_at_call 26; refine (specSetBad _ _ _ _ _ _ HST.out).mono ?_; rintro e w1 ⟨rfl, hb1⟩; have cb := box_after w 28 x y z hb1 (by repeat (first | exact Below.refl _ _ | refine Below.alloc ?_ (by simp <;> omega) _)); have hs1 : w.heap.size < w1.heap.size := by (have := hb1.size; simp at this; omega))
      | (go_at_call 28; refine (implSetBad _ _ _ _ _ _ HST.out).mono ?_; rintro e w2 ⟨rfl, hb2⟩; have cb2 := box_after w1 29 (0) (0) (0) hb2 (by repeat (first | exact Below.refl _ _ | refine Below.alloc ?_ (by simp <;> omega) _)); have hs2 : w1.heap.size < w2.heap.size := by (have := hb2.size; simp at this; omega))
      | (go_at_call 29; refine (eqState _ _ _ _).mono ?_; rintro e w3 ⟨rfl, rfl⟩))
    go_ret
    exact ⟨by simp, by repeat (first | exact Below.refl _ _ | refine grewA ?_ _ | refine grew ?_ hb2 | refine grew ?_ hb1)⟩
  | true =>
    have HST := Lib.hid hst; clear hst
    by_cases hv : 0 ≤ varNo v
    · by_cases hn0 : n < 0
      · have HV := Lib.hid hv; have HN := Lib.hid hn0; clear hv
        go_enter Try.func9, Try.ntmps9
        go_wp2_with (first
          | (go_at_call 27; refine (toState _ _ _ _).mono ?_; rintro e w' ⟨rfl, rfl⟩)
          | (go_at_call 26; refine (specSetLow _ _ _ _ _ _ HST.out HV.out HN.out).mono ?_; rintro e w1 ⟨rfl, hb1⟩; have cb := box_after w 28 x y z hb1 (by repeat (first | exact Below.refl _ _ | refine Below.alloc ?_ (by simp <;> omega) _)); have hs1 : w.heap.size < w1.heap.size := by (have := hb1.size; simp at this; omega))
          | (go_at_call 28; refine (implSetLow _ _ _ _ _ _ HST.out HV.out HN.out).mono ?_; rintro e w2 ⟨rfl, hb2⟩; have cb2 := box_after w1 29 (0) (0) (0) hb2 (by repeat (first | exact Below.refl _ _ | refine Below.alloc ?_ (by simp <;> omega) _)); have hs2 : w1.heap.size < w2.heap.size := by (have := hb2.size; simp at this; omega))
          | (go_at_call 29; refine (eqState _ _ _ _).mono ?_; rintro e w3 ⟨rfl, rfl⟩))
        go_ret
        exact ⟨by simp, by repeat (first | exact Below.refl _ _ | refine grewA ?_ _ | refine grew ?_ hb2 | refine grew ?_ hb1)⟩
      · by_cases hn3 : 3 ≤ n
        · have HV := Lib.hid hv; have HN := Lib.hid hn3; clear hv
          go_enter Try.func9, Try.ntmps9
          go_wp2_with (first
            | (go_at_call 27; refine (toState _ _ _ _).mono ?_; rintro e w' ⟨rfl, rfl⟩)
            | (go_at_call 26; refine (specSetHigh _ _ _ _ _ _ HST.out HV.out HN.out).mono ?_; rintro e w1 ⟨rfl, hb1⟩; have cb := box_after w 28 x y z hb1 (by repeat (first | exact Below.refl _ _ | refine Below.alloc ?_ (by simp <;> omega) _)); have hs1 : w.heap.size < w1.heap.size := by (have := hb1.size; simp at this; omega))
            | (go_at_call 28; refine (implSetHigh _ _ _ _ _ _ HST.out HV.out HN.out).mono ?_; rintro e w2 ⟨rfl, hb2⟩; have cb2 := box_after w1 29 (0) (0) (0) hb2 (by repeat (first | exact Below.refl _ _ | refine Below.alloc ?_ (by simp <;> omega) _)); have hs2 : w1.heap.size < w2.heap.size := by (have := hb2.size; simp at this; omega))
            | (go_at_call 29; refine (eqState _ _ _ _).mono ?_; rintro e w3 ⟨rfl, rfl⟩))
          go_ret
          exact ⟨by simp, by repeat (first | exact Below.refl _ _ | refine grewA ?_ _ | refine grew ?_ hb2 | refine grew ?_ hb1)⟩
        · have h0 : 0 ≤ n := by omega
          have h2 : n ≤ 2 := by omega
          rcases var_cases v with ⟨h, rfl⟩ | ⟨h, rfl⟩ | ⟨h, rfl⟩ | ⟨h, _⟩
          · clear h hv
            go_enter Try.func9, Try.ntmps9
            go_wp2_with (first
              | (go_at_call 27; refine (toState _ _ _ _).mono ?_; rintro e w' ⟨rfl, rfl⟩)
              | (go_at_call 26; refine (specSetOk0 _ _ _ _ _ HST.out h0 h2).mono ?_; rintro e w1 ⟨rfl, hb1⟩; have cb := box_after w 28 x y z hb1 (by repeat (first | exact Below.refl _ _ | refine Below.alloc ?_ (by simp <;> omega) _)); have hs1 : w.heap.size < w1.heap.size := by (have := hb1.size; simp at this; omega))
              | (go_at_call 28; refine (implSetOk0 _ _ _ _ _ HST.out h0 h2).mono ?_; rintro e w2 ⟨rfl, hb2⟩; have cb2 := box_after w1 29 (n) (y) (z) hb2 (by repeat (first | exact Below.refl _ _ | refine Below.alloc ?_ (by simp <;> omega) _)); have hs2 : w1.heap.size < w2.heap.size := by (have := hb2.size; simp at this; omega))
              | (go_at_call 29; refine (eqState _ _ _ _).mono ?_; rintro e w3 ⟨rfl, rfl⟩))
            go_ret
            exact ⟨by simp, by repeat (first | exact Below.refl _ _ | refine grewA ?_ _ | refine grew ?_ hb2 | refine grew ?_ hb1)⟩
          · clear h hv
            go_enter Try.func9, Try.ntmps9
            go_wp2_with (first
              | (go_at_call 27; refine (toState _ _ _ _).mono ?_; rintro e w' ⟨rfl, rfl⟩)
              | (go_at_call 26; refine (specSetOk1 _ _ _ _ _ HST.out h0 h2).mono ?_; rintro e w1 ⟨rfl, hb1⟩; have cb := box_after w 28 x y z hb1 (by repeat (first | exact Below.refl _ _ | refine Below.alloc ?_ (by simp <;> omega) _)); have hs1 : w.heap.size < w1.heap.size := by (have := hb1.size; simp at this; omega))
              | (go_at_call 28; refine (implSetOk1 _ _ _ _ _ HST.out h0 h2).mono ?_; rintro e w2 ⟨rfl, hb2⟩; have cb2 := box_after w1 29 (x) (n) (z) hb2 (by repeat (first | exact Below.refl _ _ | refine Below.alloc ?_ (by simp <;> omega) _)); have hs2 : w1.heap.size < w2.heap.size := by (have := hb2.size; simp at this; omega))
              | (go_at_call 29; refine (eqState _ _ _ _).mono ?_; rintro e w3 ⟨rfl, rfl⟩))
            go_ret
            exact ⟨by simp, by repeat (first | exact Below.refl _ _ | refine grewA ?_ _ | refine grew ?_ hb2 | refine grew ?_ hb1)⟩
          · clear h hv
            go_enter Try.func9, Try.ntmps9
            go_wp2_with (first
              | (go_at_call 27; refine (toState _ _ _ _).mono ?_; rintro e w' ⟨rfl, rfl⟩)
              | (go_at_call 26; refine (specSetOk2 _ _ _ _ _ HST.out h0 h2).mono ?_; rintro e w1 ⟨rfl, hb1⟩; have cb := box_after w 28 x y z hb1 (by repeat (first | exact Below.refl _ _ | refine Below.alloc ?_ (by simp <;> omega) _)); have hs1 : w.heap.size < w1.heap.size := by (have := hb1.size; simp at this; omega))
              | (go_at_call 28; refine (implSetOk2 _ _ _ _ _ HST.out h0 h2).mono ?_; rintro e w2 ⟨rfl, hb2⟩; have cb2 := box_after w1 29 (x) (y) (n) hb2 (by repeat (first | exact Below.refl _ _ | refine Below.alloc ?_ (by simp <;> omega) _)); have hs2 : w1.heap.size < w2.heap.size := by (have := hb2.size; simp at this; omega))
              | (go_at_call 29; refine (eqState _ _ _ _).mono ?_; rintro e w3 ⟨rfl, rfl⟩))
            go_ret
            exact ⟨by simp, by repeat (first | exact Below.refl _ _ | refine grewA ?_ _ | refine grew ?_ hb2 | refine grew ?_ hb1)⟩
          · omega
    · have hv1 : varNo v = -1 := by rcases var_cases v with ⟨h, _⟩ | ⟨h, _⟩ | ⟨h, _⟩ | ⟨h, _⟩ <;> omega
      have HV := Lib.hid hv1; clear hv hv1
      go_enter Try.func9, Try.ntmps9
      go_wp2_with (first
        | (go_at_call 27; refine (toState _ _ _ _).mono ?_; rintro e w' ⟨rfl, rfl⟩)
        | (go_at_call 26; refine (specSetNoVar _ _ _ _ _ _ HST.out HV.out).mono ?_; rintro e w1 ⟨rfl, hb1⟩; have cb := box_after w 28 x y z hb1 (by repeat (first | exact Below.refl _ _ | refine Below.alloc ?_ (by simp <;> omega) _)); have hs1 : w.heap.size < w1.heap.size := by (have := hb1.size; simp at this; omega))
        | (go_at_call 28; refine (implSetNoVar _ _ _ _ _ _ HST.out HV.out).mono ?_; rintro e w2 ⟨rfl, hb2⟩; have cb2 := box_after w1 29 (0) (0) (0) hb2 (by repeat (first | exact Below.refl _ _ | refine Below.alloc ?_ (by simp <;> omega) _)); have hs2 : w1.heap.size < w2.heap.size := by (have := hb2.size; simp at this; omega))
        | (go_at_call 29; refine (eqState _ _ _ _).mono ?_; rintro e w3 ⟨rfl, rfl⟩))
      go_ret
      exact ⟨by simp, by repeat (first | exact Below.refl _ _ | refine grewA ?_ _ | refine grew ?_ hb2 | refine grew ?_ hb1)⟩
end Go.Proofs.Ytinnkkhpgcmbhaa.La2
