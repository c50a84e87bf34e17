/- The walks of the first laws: constants, states, sets and relations by their texts. -/
import Derived.Test.YtflnmeelmnmclaaState
import Derived.Test.YtflnmeelmnmclaaText
import Derived.Test.YtflnmeelmnmclaaPair
namespace Go.Proofs.Ytflnmeelmnmclaa.La
open Go.RowKit Go.Sort Go.Proofs.Ytflnmeelmnmclaa.Ro Go.Proofs.Ytflnmeelmnmclaa.Bi Go.Proofs.Ytflnmeelmnmclaa.St Go.Proofs.Ytflnmeelmnmclaa.Se Go.Proofs.Ytflnmeelmnmclaa.Nu
set_option linter.unusedVariables false

/-- What was laid behind a world that grew. -/
theorem grew {w w1 w2 : World} (h : Below w.heap.size w w1) (h' : Below w1.heap.size w1 w2) : Below w.heap.size w w2 := h.trans (h'.mono h.size)
theorem grewA {w w1 : World} (h : Below w.heap.size w w1) (o : Obj) : Below w.heap.size w (w1.alloc o) := h.alloc h.size o

/-- A state handed over by value, behind a call that only laid blocks. -/
theorem box_after (w : World) (t : TypeId) (x y z : Int) {W w1 : World} (hb : Below W.heap.size W w1) (hW : Below (w.heap.size + 1) (box w t x y z) W) :
    w1.cell? ⟨w.heap.size, 0, none⟩ = some (.int .i64 x) ∧ w1.cell? ⟨w.heap.size, 1, none⟩ = some (.int .i64 y) ∧ w1.cell? ⟨w.heap.size, 2, none⟩ = some (.int .i64 z) := by
  have hs := hW.size
  simp at hs
  have h : Below (w.heap.size + 1) (box w t x y z) w1 := hW.trans (hb.mono hs)
  refine ⟨?_, ?_, ?_⟩ <;> (rw [h.cell (by simp)]; simp [World.cell?_alloc_at])
theorem box2_after (w : World) (t : TypeId) (x y z a b c : Int) {W w1 : World} (hb : Below W.heap.size W w1) (hW : Below (w.heap.size + 2) (box (box w t x y z) t a b c) W) :
    (w1.cell? ⟨w.heap.size, 0, none⟩ = some (.int .i64 x) ∧ w1.cell? ⟨w.heap.size, 1, none⟩ = some (.int .i64 y) ∧ w1.cell? ⟨w.heap.size, 2, none⟩ = some (.int .i64 z)) ∧
    (w1.cell? ⟨w.heap.size + 1, 0, none⟩ = some (.int .i64 a) ∧ w1.cell? ⟨w.heap.size + 1, 1, none⟩ = some (.int .i64 b) ∧ w1.cell? ⟨w.heap.size + 1, 2, none⟩ = some (.int .i64 c)) := by
  have hs := hW.size
  simp at hs
  have h : Below (w.heap.size + 2) (box (box w t x y z) t a b c) w1 := hW.trans (hb.mono hs)
  refine ⟨⟨?_, ?_, ?_⟩, ⟨?_, ?_, ?_⟩⟩ <;> (rw [h.cell (by simp)]; simp [World.cell?_alloc_at, World.cell?_alloc_past])

theorem lawConstants (w : World) : Calls Try.prog 3 #[] w fun e w' => e = .returned (.bool true) ∧ Below w.heap.size w w' := by
  go_enter Try.func3, Try.ntmps3
  go_wp2
  go_ret
  exact ⟨rfl, Below.refl _ _⟩
set_option maxHeartbeats 1000000 in
theorem lawStateValid (x y z : Int) (w : World) (wx : (Lit.int .i64 x).wf = true) (wy : (Lit.int .i64 y).wf = true) (wz : (Lit.int .i64 z).wf = true) :
    Calls Try.prog 4 #[.agg #[.int .i64 x, .int .i64 y, .int .i64 z]] w fun e w' => e = .returned (.bool true) ∧ Below w.heap.size w w' := by
  go_enter Try.func4, Try.ntmps4
  go_wp2_with (first
    | (go_at_call 16; refine (toState _ _ _ _).mono ?_; rintro e w' ⟨rfl, rfl⟩)
    | (go_at_call 15; refine (specStateValid _ _ _ _).mono ?_; rintro e w' ⟨rfl, rfl⟩)
    | (go_at_call 17; refine (implStateValid _ _ _ _).mono ?_; rintro e w' ⟨rfl, rfl⟩))
  all_goals
    go_ret
    exact ⟨by simp, by repeat (first | exact Below.refl _ _ | assumption | refine grewA ?_ _ | refine grew ?_ (by assumption))⟩
set_option maxHeartbeats 1000000 in
theorem lawPredValid (s : ByteArray) (w : World) (hs : s.size ≤ maxLen) :
    Calls Try.prog 5 #[.string s] w fun e w' => e = .returned (.bool true) ∧ Below w.heap.size w w' := by
  have hs' := hs
  unfold maxLen at hs'
  by_cases hbig : s.size ≤ 1048576
  case neg =>
    go_enter Try.func5, Try.ntmps5
    go_wp2
    go_ret
    exact ⟨rfl, Below.refl _ _⟩
  go_enter Try.func5, Try.ntmps5
  go_wp2_with (first
    | (go_at_call 18; refine (specPredValid _ _ hs).mono ?_; rintro e w' ⟨rfl, rfl⟩)
    | (go_at_call 19; refine (implPredValid _ _ hs).mono ?_; rintro e w' ⟨rfl, rfl⟩))
  all_goals
    go_ret
    exact ⟨by simp, by repeat (first | exact Below.refl _ _ | assumption | refine grewA ?_ _ | refine grew ?_ (by assumption))⟩
set_option maxHeartbeats 1000000 in
theorem lawPredWithin (p q : ByteArray) (w : World) (hp : p.size ≤ maxLen) (hq : q.size ≤ maxLen) :
    Calls Try.prog 11 #[.string p, .string q] w fun e w' => e = .returned (.bool true) ∧ Below w.heap.size w w' := by
  have hp' := hp
  have hq' := hq
  unfold maxLen at hp' hq'
  by_cases hbig : p.size ≤ 1048576
  case neg =>
    go_enter Try.func11, Try.ntmps11
    go_wp2
    go_ret
    exact ⟨rfl, Below.refl _ _⟩
  by_cases hbigq : q.size ≤ 1048576
  case neg =>
    go_enter Try.func11, Try.ntmps11
    go_wp2
    go_ret
    exact ⟨rfl, Below.refl _ _⟩
  go_enter Try.func11, Try.ntmps11
  go_wp2_with (first
    | (go_at_call 31; refine (specPredWithin _ _ _ hbig hbigq).mono ?_; rintro e w1 ⟨rfl, hb1⟩)
    | (go_at_call 32; refine (implPredWithin _ _ _ hbig hbigq).mono ?_; rintro e w' ⟨rfl, rfl⟩))
  all_goals
    go_ret
    exact ⟨by simp, by repeat (first | exact Below.refl _ _ | assumption | refine grewA ?_ _ | refine grew ?_ (by assumption))⟩
set_option maxHeartbeats 1000000 in
theorem lawRelValid (s : ByteArray) (w : World) (hs : s.size ≤ maxLen) :
    Calls Try.prog 6 #[.string s] w fun e w' => e = .returned (.bool true) ∧ Below w.heap.size w w' := by
  have hs' := hs
  unfold maxLen at hs'
  by_cases hbig : s.size ≤ 1048576
  case neg =>
    go_enter Try.func6, Try.ntmps6
    go_wp2
    go_ret
    exact ⟨rfl, Below.refl _ _⟩
  go_enter Try.func6, Try.ntmps6
  go_wp2_with (first
    | (go_at_call 20; refine (specRelValid _ _ hs).mono ?_; rintro e w' ⟨rfl, rfl⟩)
    | (go_at_call 21; refine (implRelValid _ _ hs).mono ?_; rintro e w' ⟨rfl, rfl⟩))
  all_goals
    go_ret
    exact ⟨by simp, by repeat (first | exact Below.refl _ _ | assumption | refine grewA ?_ _ | refine grew ?_ (by assumption))⟩
set_option maxHeartbeats 1000000 in
theorem lawRelWithin (p q : ByteArray) (w : World) (hp : p.size ≤ maxLen) (hq : q.size ≤ maxLen) :
    Calls Try.prog 10 #[.string p, .string q] w fun e w' => e = .returned (.bool true) ∧ Below w.heap.size w w' := by
  have hp' := hp
  have hq' := hq
  unfold maxLen at hp' hq'
  by_cases hbig : p.size ≤ 1048576
  case neg =>
    go_enter Try.func10, Try.ntmps10
    go_wp2
    go_ret
    exact ⟨rfl, Below.refl _ _⟩
  by_cases hbigq : q.size ≤ 1048576
  case neg =>
    go_enter Try.func10, Try.ntmps10
    go_wp2
    go_ret
    exact ⟨rfl, Below.refl _ _⟩
  go_enter Try.func10, Try.ntmps10
  go_wp2_with (first
    | (go_at_call 29; refine (specRelWithin _ _ _ hbig hbigq).mono ?_; rintro e w1 ⟨rfl, hb1⟩)
    | (go_at_call 30; refine (implRelWithin _ _ _ hbig hbigq).mono ?_; rintro e w' ⟨rfl, rfl⟩))
  all_goals
    go_ret
    exact ⟨by simp, by repeat (first | exact Below.refl _ _ | assumption | refine grewA ?_ _ | refine grew ?_ (by assumption))⟩
set_option maxHeartbeats 1000000 in
theorem lawStateIndex (x y z : Int) (w : World) (wx : (Lit.int .i64 x).wf = true) (wy : (Lit.int .i64 y).wf = true) (wz : (Lit.int .i64 z).wf = true) :
    Calls Try.prog 8 #[.agg #[.int .i64 x, .int .i64 y, .int .i64 z]] w fun e w' => e = .returned (.bool true) ∧ Below w.heap.size w w' := by
  go_enter Try.func8, Try.ntmps8
  go_wp2_with (first
    | (go_at_call 16; refine (toState _ _ _ _).mono ?_; rintro e w' ⟨rfl, rfl⟩)
    | (go_at_call 25; refine (specStateIndex _ _ _ _).mono ?_; rintro e w1 ⟨rfl, hb1⟩; have cb := box_after w 24 x y z hb1 (by repeat (first | exact Below.refl _ _ | refine Below.alloc ?_ (by simp <;> omega) _)))
    | (go_at_call 26; refine (implStateIndex _ _ _ _).mono ?_; rintro e w2 ⟨rfl, hb2⟩))
  all_goals
    go_ret
    exact ⟨by simp, by repeat (first | exact Below.refl _ _ | assumption | refine grewA ?_ _ | refine grew ?_ (by assumption))⟩
set_option maxHeartbeats 1000000 in
theorem lawHasState (s : ByteArray) (x y z : Int) (w : World) (hs : s.size ≤ maxLen) (wx : (Lit.int .i64 x).wf = true) (wy : (Lit.int .i64 y).wf = true) (wz : (Lit.int .i64 z).wf = true) :
    Calls Try.prog 12 #[.string s, .agg #[.int .i64 x, .int .i64 y, .int .i64 z]] w fun e w' => e = .returned (.bool true) ∧ Below w.heap.size w w' := by
  have hs' := hs
  unfold maxLen at hs'
  by_cases hbig : s.size ≤ 1048576
  case neg =>
    go_enter Try.func12, Try.ntmps12
    go_wp2
    go_ret
    exact ⟨rfl, by repeat (first | exact Below.refl _ _ | assumption | refine grewA ?_ _ | refine grew ?_ (by assumption))⟩
  go_enter Try.func12, Try.ntmps12
  go_wp2_with (first
    | (go_at_call 16; refine (toState _ _ _ _).mono ?_; rintro e w' ⟨rfl, rfl⟩)
    | (go_at_call 33; refine (specHasState _ _ _ _ _ hs).mono ?_; rintro e w1 ⟨rfl, hb1⟩; have cb := box_after w 24 x y z hb1 (by repeat (first | exact Below.refl _ _ | refine Below.alloc ?_ (by simp <;> omega) _)))
    | (go_at_call 34; refine (implHasState _ _ _ _ _ hs).mono ?_; rintro e w2 ⟨rfl, hb2⟩))
  all_goals
    go_ret
    exact ⟨by simp, by repeat (first | exact Below.refl _ _ | assumption | refine grewA ?_ _ | refine grew ?_ (by assumption))⟩
theorem of_box3 {P : Program} {f : FuncId} {args : Array Value} {W : World} {v : Value} {o o2 o3 : Obj} (h : Calls P f args W fun e w' => e = .returned v ∧ ((W.alloc o).alloc o2).alloc o3 = w') : Calls P f args W fun e w' => e = .returned v ∧ Below W.heap.size W w' :=
  h.mono fun _ _ ⟨he, hw⟩ => ⟨he, by rw [← hw]; exact grewA (grewA (grewA (Below.refl _ _) _) _) _⟩
set_option maxHeartbeats 4000000 in
theorem lawHasPair (s : ByteArray) (x y z a b c : Int) (w : World) (hs : s.size ≤ maxLen) (wx : (Lit.int .i64 x).wf = true) (wy : (Lit.int .i64 y).wf = true) (wz : (Lit.int .i64 z).wf = true) (wa : (Lit.int .i64 a).wf = true) (wb : (Lit.int .i64 b).wf = true) (wc : (Lit.int .i64 c).wf = true) :
    Calls Try.prog 13 #[.string s, .agg #[.int .i64 x, .int .i64 y, .int .i64 z], .agg #[.int .i64 a, .int .i64 b, .int .i64 c]] w fun e w' => e = .returned (.bool true) ∧ Below w.heap.size w w' := by
  have hs' := hs
  unfold maxLen at hs'
  by_cases hbig : s.size ≤ 1048576
  case neg =>
    go_enter Try.func13, Try.ntmps13
    go_wp2
    go_ret
    exact ⟨rfl, by repeat (first | exact Below.refl _ _ | assumption | refine grewA ?_ _ | refine grew ?_ (by assumption))⟩
  have hc := cells6 w 24 24 x y z a b c
  go_enter Try.func13, Try.ntmps13
  go_wp2
  refine wp_region_quiet_below (by kernel_rfl) (by kernel_rfl) ?_
  repeat (go_big_quiet_step (first | (go_at_call 16; exact Calls.regrown_of (of_box3 (toState _ _ _ _))) | (go_at_call 35; exact Calls.regrown_of (specHasPair _ _ _ _ _ _ _ _ hs))))
  refine wpQuiet_nil ?_
  intro _ hw'
  obtain ⟨⟨dspec, ospec⟩, hw''⟩ := hw'
  subst hw''
  have hb := below_regrown (box (box w 24 x y z) 24 a b c) dspec ospec
  have cb := box2_after w 24 x y z a b c hb (Below.refl _ _)
  clear hc
  generalize grow (redrawn (box (box w 24 x y z) 24 a b c) dspec) ospec = W1 at *
  have hc := fun p : Regrown => (⟨⟨cell_regrown cb.1.1 p.d p.os, cell_regrown cb.1.2.1 p.d p.os, cell_regrown cb.1.2.2 p.d p.os⟩, ⟨cell_regrown cb.2.1 p.d p.os, cell_regrown cb.2.2.1 p.d p.os, cell_regrown cb.2.2.2 p.d p.os⟩⟩ : (_ ∧ _ ∧ _) ∧ (_ ∧ _ ∧ _))
  go_wp2
  refine wp_region_quiet_below (by kernel_rfl) (by kernel_rfl) ?_
  repeat (go_big_quiet_step (first | (go_at_call 16; exact Calls.regrown_of (of_box3 (toState _ _ _ _))) | (go_at_call 36; exact Calls.regrown_of (implHasPair _ _ _ _ _ _ _ _ hs))))
  refine wpQuiet_nil ?_
  intro _ hw'
  obtain ⟨⟨dimpl, oimpl⟩, hw''⟩ := hw'
  subst hw''
  go_wp2
  go_ret
  exact ⟨by simp, grew (grew (grewA (grewA (Below.refl _ _) _) _) hb) (below_regrown _ _ _)⟩
set_option maxHeartbeats 2000000 in
theorem lawStateAt (i : Int) (w : World) (hi : (Lit.int .i64 i).wf = true) :
    Calls Try.prog 7 #[.int .i64 i] w fun e w' => e = .returned (.bool true) ∧ Below w.heap.size w w' := by
  by_cases hin : 0 ≤ i ∧ i < 27
  · have hin' := hin.1
    go_enter Try.func7, Try.ntmps7
    go_wp2_with (first
      | (go_at_call 22; refine (specStateAtIn _ _ hin.1 hin.2).mono ?_; rintro e w1 ⟨rfl, hb1⟩)
      | (go_at_call 23; refine (implStateAtIn _ _ hin.1 hin.2).mono ?_; rintro e w2 ⟨rfl, hb2⟩; have cb := box_after w1 26 (sx i) (sy i) (sz i) hb2 (Below.refl _ _); have hs2 : w1.heap.size < w2.heap.size := by (have := hb2.size; simp at this; omega))
      | (go_at_call 24; refine (eqState _ _ _ _).mono ?_; rintro e w3 ⟨rfl, rfl⟩))
    go_ret
    exact ⟨by simp, grewA (grewA (grewA (grew (grewA hb1 _) hb2) _) _) _⟩
  · have hout : i < 0 ∨ 27 ≤ i := by omega
    go_enter Try.func7, Try.ntmps7
    go_wp2_with (first
      | (go_at_call 22; refine (specStateAtOut _ _ hout).mono ?_; rintro e w1 ⟨rfl, hb1⟩)
      | (go_at_call 23; refine (implStateAtOut _ _ hout).mono ?_; rintro e w2 ⟨rfl, hb2⟩; have cb := box_after w1 26 (0) (0) (0) hb2 (Below.refl _ _); have hs2 : w1.heap.size < w2.heap.size := by (have := hb2.size; simp at this; omega))
      | (go_at_call 24; refine (eqState _ _ _ _).mono ?_; rintro e w3 ⟨rfl, rfl⟩))
    go_ret
    exact ⟨by simp, grewA (grewA (grewA (grew (grewA hb1 _) hb2) _) _) _⟩
set_option maxHeartbeats 2000000 in
theorem lawParseState (s : ByteArray) (w : World) (hs : s.size ≤ maxLen) :
    Calls Try.prog 14 #[.string s] w fun e w' => e = .returned (.bool true) ∧ Below w.heap.size w w' := by
  have hs' := hs
  unfold maxLen at hs'
  by_cases hbig : s.size ≤ 1048576
  case neg =>
    go_enter Try.func14, Try.ntmps14
    go_wp2
    go_ret
    exact ⟨rfl, Below.refl _ _⟩
  cases hf : findT s with
  | some m =>
    have HF := Lib.hid hf; clear hf
    go_enter Try.func14, Try.ntmps14
    go_wp2_with (first
      | (go_at_call 37; refine (specParseSome _ m _ HF.out).mono ?_; rintro e w1 ⟨rfl, hb1⟩)
      | (go_at_call 38; refine (implParseSome _ m _ HF.out).mono ?_; rintro e w2 ⟨rfl, hb2⟩; have cb := box_after w1 26 (sx m) (sy m) (sz m) hb2 (Below.refl _ _); have hs2 : w1.heap.size < w2.heap.size := by (have := hb2.size; simp at this; omega))
      | (go_at_call 24; refine (eqState _ _ _ _).mono ?_; rintro e w3 ⟨rfl, rfl⟩))
    go_ret
    exact ⟨by simp, grewA (grewA (grewA (grew (grewA hb1 _) hb2) _) _) _⟩
  | none =>
    have HF := Lib.hid hf; clear hf
    go_enter Try.func14, Try.ntmps14
    go_wp2_with (first
      | (go_at_call 37; refine (specParseNone _ _ HF.out).mono ?_; rintro e w1 ⟨rfl, hb1⟩)
      | (go_at_call 38; refine (implParseNone _ _ HF.out).mono ?_; rintro e w2 ⟨rfl, hb2⟩; have cb := box_after w1 26 (0) (0) (0) hb2 (Below.refl _ _); have hs2 : w1.heap.size < w2.heap.size := by (have := hb2.size; simp at this; omega))
      | (go_at_call 24; refine (eqState _ _ _ _).mono ?_; rintro e w3 ⟨rfl, rfl⟩))
    go_ret
    exact ⟨by simp, grewA (grewA (grewA (grew (grewA hb1 _) hb2) _) _) _⟩
set_option maxHeartbeats 1000000 in
theorem lawFormatState (x y z : Int) (w : World) (wx : (Lit.int .i64 x).wf = true) (wy : (Lit.int .i64 y).wf = true) (wz : (Lit.int .i64 z).wf = true) :
    Calls Try.prog 9 #[.agg #[.int .i64 x, .int .i64 y, .int .i64 z]] w fun e w' => e = .returned (.bool true) ∧ Below w.heap.size w w' := by
  cases hst : stB x y z with
  | true =>
    have HS := Lib.hid hst; clear hst
    go_enter Try.func9, Try.ntmps9
    go_wp2_with (first
      | (go_at_call 16; refine (toState _ _ _ _).mono ?_; rintro e w' ⟨rfl, rfl⟩)
      | (go_at_call 27; refine (specFormat _ _ _ _ HS.out).mono ?_; rintro e w1 ⟨rfl, hb1⟩; have cb := box_after w 24 x y z hb1 (by repeat (first | exact Below.refl _ _ | refine Below.alloc ?_ (by simp <;> omega) _)))
      | (go_at_call 28; refine (implFormat _ _ _ _ HS.out).mono ?_; rintro e w2 ⟨rfl, hb2⟩))
    go_ret
    exact ⟨by simp, by repeat (first | exact Below.refl _ _ | assumption | refine grewA ?_ _ | refine grew ?_ (by assumption))⟩
  | false =>
    have HS := Lib.hid hst; clear hst
    go_enter Try.func9, Try.ntmps9
    go_wp2_with (first
      | (go_at_call 16; refine (toState _ _ _ _).mono ?_; rintro e w' ⟨rfl, rfl⟩)
      | (go_at_call 27; refine (specFormatNot _ _ _ _ HS.out).mono ?_; rintro e w1 ⟨rfl, hb1⟩; have cb := box_after w 24 x y z hb1 (by repeat (first | exact Below.refl _ _ | refine Below.alloc ?_ (by simp <;> omega) _)))
      | (go_at_call 28; refine (implFormatNot _ _ _ _ HS.out).mono ?_; rintro e w2 ⟨rfl, hb2⟩))
    go_ret
    exact ⟨by simp, by repeat (first | exact Below.refl _ _ | assumption | refine grewA ?_ _ | refine grew ?_ (by assumption))⟩
end Go.Proofs.Ytflnmeelmnmclaa.La
