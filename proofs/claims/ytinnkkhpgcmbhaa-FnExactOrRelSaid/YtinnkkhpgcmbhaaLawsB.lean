/- The walks of laws: what two sets, or relations, have both, or one of them, or one has not. -/
import Derived.Test.YtinnkkhpgcmbhaaBool
namespace Go.Proofs.Ytinnkkhpgcmbhaa.La
open Go.RowKit Go.Proofs.Ytinnkkhpgcmbhaa.Ro Go.Proofs.Ytinnkkhpgcmbhaa.Bi Go.Proofs.Ytinnkkhpgcmbhaa.St Go.Proofs.Ytinnkkhpgcmbhaa.Se Go.Proofs.Ytinnkkhpgcmbhaa.Bo
set_option linter.unusedVariables false

theorem grew {w w1 w2 : World} (h : Below w.heap.size w w1) (h' : Below w1.heap.size w1 w2) : Below w.heap.size w w2 := h.trans (h'.mono h.size)
theorem grewA {w w1 : World} (h : Below w.heap.size w w1) (o : Obj) : Below w.heap.size w (w1.alloc o) := h.alloc h.size o

set_option maxHeartbeats 1000000 in
theorem lawAndPred (p q : ByteArray) (w : World) (hp : p.size ≤ maxLen) (hq : q.size ≤ maxLen) :
    Calls Try.prog 3 #[.string p, .string q] w fun e w' => e = .returned (.bool true) ∧ Below w.heap.size w w' := by
  have hp' := hp
  unfold maxLen at hp'
  have hq' := hq
  unfold maxLen at hq'
  by_cases bigp : p.size ≤ 1048576
  case neg =>
    go_enter Try.func3, Try.ntmps3
    go_wp2
    go_ret
    exact ⟨rfl, by repeat (first | exact Below.refl _ _ | assumption | refine grewA ?_ _ | refine grew ?_ (by assumption))⟩
  by_cases bigq : q.size ≤ 1048576
  case neg =>
    go_enter Try.func3, Try.ntmps3
    go_wp2
    go_ret
    exact ⟨rfl, by repeat (first | exact Below.refl _ _ | assumption | refine grewA ?_ _ | refine grew ?_ (by assumption))⟩
  by_cases hbad : bitsB p 27 = false ∨ bitsB q 27 = false
  · have HB := Lib.hid hbad; clear hbad
    go_enter Try.func3, Try.ntmps3
    go_wp2_with (first
      | (go_at_call 14; refine (specAndPredNot _ _ _ bigp bigq HB.out).mono ?_; rintro e w1 ⟨rfl, hb1⟩)
      | (go_at_call 15; refine (implAndPredNot _ _ _ bigp bigq HB.out).mono ?_; rintro e w2 ⟨rfl, hb2⟩))
    go_ret
    exact ⟨by simp, by repeat (first | exact Below.refl _ _ | assumption | refine grewA ?_ _ | refine grew ?_ (by assumption))⟩
  · have Hp := Lib.hid (show bitsB p 27 = true by cases h : bitsB p 27 <;> simp_all)
    have Hq := Lib.hid (show bitsB q 27 = true by cases h : bitsB q 27 <;> simp_all)
    clear hbad
    go_enter Try.func3, Try.ntmps3
    go_wp2_with (first
      | (go_at_call 14; refine (specAndPred _ _ _ bigp bigq Hp.out Hq.out).mono ?_; rintro e w1 ⟨rfl, hb1⟩)
      | (go_at_call 15; refine (implAndPred _ _ _ bigp bigq Hp.out Hq.out).mono ?_; rintro e w2 ⟨rfl, hb2⟩))
    go_ret
    exact ⟨by simp, by repeat (first | exact Below.refl _ _ | assumption | refine grewA ?_ _ | refine grew ?_ (by assumption))⟩
set_option maxHeartbeats 1000000 in
theorem lawNotPred (p : ByteArray) (w : World) (hp : p.size ≤ maxLen) :
    Calls Try.prog 4 #[.string p] w fun e w' => e = .returned (.bool true) ∧ Below w.heap.size w w' := by
  have hp' := hp
  unfold maxLen at hp'
  by_cases bigp : p.size ≤ 1048576
  case neg =>
    go_enter Try.func4, Try.ntmps4
    go_wp2
    go_ret
    exact ⟨rfl, by repeat (first | exact Below.refl _ _ | assumption | refine grewA ?_ _ | refine grew ?_ (by assumption))⟩
  by_cases hbad : bitsB p 27 = false
  · have HB := Lib.hid hbad; clear hbad
    go_enter Try.func4, Try.ntmps4
    go_wp2_with (first
      | (go_at_call 16; refine (specNotPredNot _ _ bigp HB.out).mono ?_; rintro e w1 ⟨rfl, hb1⟩)
      | (go_at_call 17; refine (implNotPredNot _ _ bigp HB.out).mono ?_; rintro e w2 ⟨rfl, hb2⟩))
    go_ret
    exact ⟨by simp, by repeat (first | exact Below.refl _ _ | assumption | refine grewA ?_ _ | refine grew ?_ (by assumption))⟩
  · have Hp := Lib.hid (show bitsB p 27 = true by cases h : bitsB p 27 <;> simp_all)
    clear hbad
    go_enter Try.func4, Try.ntmps4
    go_wp2_with (first
      | (go_at_call 16; refine (specNotPred _ _ bigp Hp.out).mono ?_; rintro e w1 ⟨rfl, hb1⟩)
      | (go_at_call 17; refine (implNotPred _ _ bigp Hp.out).mono ?_; rintro e w2 ⟨rfl, hb2⟩))
    go_ret
    exact ⟨by simp, by repeat (first | exact Below.refl _ _ | assumption | refine grewA ?_ _ | refine grew ?_ (by assumption))⟩
set_option maxHeartbeats 1000000 in
theorem lawOrPred (p q : ByteArray) (w : World) (hp : p.size ≤ maxLen) (hq : q.size ≤ maxLen) :
    Calls Try.prog 5 #[.string p, .string q] w fun e w' => e = .returned (.bool true) ∧ Below w.heap.size w w' := by
  have hp' := hp
  unfold maxLen at hp'
  have hq' := hq
  unfold maxLen at hq'
  by_cases bigp : p.size ≤ 1048576
  case neg =>
    go_enter Try.func5, Try.ntmps5
    go_wp2
    go_ret
    exact ⟨rfl, by repeat (first | exact Below.refl _ _ | assumption | refine grewA ?_ _ | refine grew ?_ (by assumption))⟩
  by_cases bigq : q.size ≤ 1048576
  case neg =>
    go_enter Try.func5, Try.ntmps5
    go_wp2
    go_ret
    exact ⟨rfl, by repeat (first | exact Below.refl _ _ | assumption | refine grewA ?_ _ | refine grew ?_ (by assumption))⟩
  by_cases hbad : bitsB p 27 = false ∨ bitsB q 27 = false
  · have HB := Lib.hid hbad; clear hbad
    go_enter Try.func5, Try.ntmps5
    go_wp2_with (first
      | (go_at_call 18; refine (specOrPredNot _ _ _ bigp bigq HB.out).mono ?_; rintro e w1 ⟨rfl, hb1⟩)
      | (go_at_call 19; refine (implOrPredNot _ _ _ bigp bigq HB.out).mono ?_; rintro e w2 ⟨rfl, hb2⟩))
    go_ret
    exact ⟨by simp, by repeat (first | exact Below.refl _ _ | assumption | refine grewA ?_ _ | refine grew ?_ (by assumption))⟩
  · have Hp := Lib.hid (show bitsB p 27 = true by cases h : bitsB p 27 <;> simp_all)
    have Hq := Lib.hid (show bitsB q 27 = true by cases h : bitsB q 27 <;> simp_all)
    clear hbad
    go_enter Try.func5, Try.ntmps5
    go_wp2_with (first
      | (go_at_call 18; refine (specOrPred _ _ _ bigp bigq Hp.out Hq.out).mono ?_; rintro e w1 ⟨rfl, hb1⟩)
      | (go_at_call 19; refine (implOrPred _ _ _ bigp bigq Hp.out Hq.out).mono ?_; rintro e w2 ⟨rfl, hb2⟩))
    go_ret
    exact ⟨by simp, by repeat (first | exact Below.refl _ _ | assumption | refine grewA ?_ _ | refine grew ?_ (by assumption))⟩
set_option maxHeartbeats 1000000 in
theorem lawAndRel (p q : ByteArray) (w : World) (hp : p.size ≤ maxLen) (hq : q.size ≤ maxLen) :
    Calls Try.prog 6 #[.string p, .string q] w fun e w' => e = .returned (.bool true) ∧ Below w.heap.size w w' := by
  have hp' := hp
  unfold maxLen at hp'
  have hq' := hq
  unfold maxLen at hq'
  by_cases bigp : p.size ≤ 1048576
  case neg =>
    go_enter Try.func6, Try.ntmps6
    go_wp2
    go_ret
    exact ⟨rfl, by repeat (first | exact Below.refl _ _ | assumption | refine grewA ?_ _ | refine grew ?_ (by assumption))⟩
  by_cases bigq : q.size ≤ 1048576
  case neg =>
    go_enter Try.func6, Try.ntmps6
    go_wp2
    go_ret
    exact ⟨rfl, by repeat (first | exact Below.refl _ _ | assumption | refine grewA ?_ _ | refine grew ?_ (by assumption))⟩
  by_cases hbad : bitsB p 729 = false ∨ bitsB q 729 = false
  · have HB := Lib.hid hbad; clear hbad
    go_enter Try.func6, Try.ntmps6
    go_wp2_with (first
      | (go_at_call 20; refine (specAndRelNot _ _ _ bigp bigq HB.out).mono ?_; rintro e w1 ⟨rfl, hb1⟩)
      | (go_at_call 21; refine (implAndRelNot _ _ _ bigp bigq HB.out).mono ?_; rintro e w2 ⟨rfl, hb2⟩))
    go_ret
    exact ⟨by simp, by repeat (first | exact Below.refl _ _ | assumption | refine grewA ?_ _ | refine grew ?_ (by assumption))⟩
  · have Hp := Lib.hid (show bitsB p 729 = true by cases h : bitsB p 729 <;> simp_all)
    have Hq := Lib.hid (show bitsB q 729 = true by cases h : bitsB q 729 <;> simp_all)
    clear hbad
    go_enter Try.func6, Try.ntmps6
    go_wp2_with (first
      | (go_at_call 20; refine (specAndRel _ _ _ bigp bigq Hp.out Hq.out).mono ?_; rintro e w1 ⟨rfl, hb1⟩)
      | (go_at_call 21; refine (implAndRel _ _ _ bigp bigq Hp.out Hq.out).mono ?_; rintro e w2 ⟨rfl, hb2⟩))
    go_ret
    exact ⟨by simp, by repeat (first | exact Below.refl _ _ | assumption | refine grewA ?_ _ | refine grew ?_ (by assumption))⟩
set_option maxHeartbeats 1000000 in
theorem lawNotRel (p : ByteArray) (w : World) (hp : p.size ≤ maxLen) :
    Calls Try.prog 7 #[.string p] w fun e w' => e = .returned (.bool true) ∧ Below w.heap.size w w' := by
  have hp' := hp
  unfold maxLen at hp'
  by_cases bigp : p.size ≤ 1048576
  case neg =>
    go_enter Try.func7, Try.ntmps7
    go_wp2
    go_ret
    exact ⟨rfl, by repeat (first | exact Below.refl _ _ | assumption | refine grewA ?_ _ | refine grew ?_ (by assumption))⟩
  by_cases hbad : bitsB p 729 = false
  · have HB := Lib.hid hbad; clear hbad
    go_enter Try.func7, Try.ntmps7
    go_wp2_with (first
      | (go_at_call 22; refine (specNotRelNot _ _ bigp HB.out).mono ?_; rintro e w1 ⟨rfl, hb1⟩)
      | (go_at_call 23; refine (implNotRelNot _ _ bigp HB.out).mono ?_; rintro e w2 ⟨rfl, hb2⟩))
    go_ret
    exact ⟨by simp, by repeat (first | exact Below.refl _ _ | assumption | refine grewA ?_ _ | refine grew ?_ (by assumption))⟩
  · have Hp := Lib.hid (show bitsB p 729 = true by cases h : bitsB p 729 <;> simp_all)
    clear hbad
    go_enter Try.func7, Try.ntmps7
    go_wp2_with (first
      | (go_at_call 22; refine (specNotRel _ _ bigp Hp.out).mono ?_; rintro e w1 ⟨rfl, hb1⟩)
      | (go_at_call 23; refine (implNotRel _ _ bigp Hp.out).mono ?_; rintro e w2 ⟨rfl, hb2⟩))
    go_ret
    exact ⟨by simp, by repeat (first | exact Below.refl _ _ | assumption | refine grewA ?_ _ | refine grew ?_ (by assumption))⟩
set_option maxHeartbeats 1000000 in
theorem lawOrRel (p q : ByteArray) (w : World) (hp : p.size ≤ maxLen) (hq : q.size ≤ maxLen) :
    Calls Try.prog 8 #[.string p, .string q] w fun e w' => e = .returned (.bool true) ∧ Below w.heap.size w w' := by
  have hp' := hp
  unfold maxLen at hp'
  have hq' := hq
  unfold maxLen at hq'
  by_cases bigp : p.size ≤ 1048576
  case neg =>
    go_enter Try.func8, Try.ntmps8
    go_wp2
    go_ret
    exact ⟨rfl, by repeat (first | exact Below.refl _ _ | assumption | refine grewA ?_ _ | refine grew ?_ (by assumption))⟩
  by_cases bigq : q.size ≤ 1048576
  case neg =>
    go_enter Try.func8, Try.ntmps8
    go_wp2
    go_ret
    exact ⟨rfl, by repeat (first | exact Below.refl _ _ | assumption | refine grewA ?_ _ | refine grew ?_ (by assumption))⟩
  by_cases hbad : bitsB p 729 = false ∨ bitsB q 729 = false
  · have HB := Lib.hid hbad; clear hbad
    go_enter Try.func8, Try.ntmps8
    go_wp2_with (first
      | (go_at_call 24; refine (specOrRelNot _ _ _ bigp bigq HB.out).mono ?_; rintro e w1 ⟨rfl, hb1⟩)
      | (go_at_call 25; refine (implOrRelNot _ _ _ bigp bigq HB.out).mono ?_; rintro e w2 ⟨rfl, hb2⟩))
    go_ret
    exact ⟨by simp, by repeat (first | exact Below.refl _ _ | assumption | refine grewA ?_ _ | refine grew ?_ (by assumption))⟩
  · have Hp := Lib.hid (show bitsB p 729 = true by cases h : bitsB p 729 <;> simp_all)
    have Hq := Lib.hid (show bitsB q 729 = true by cases h : bitsB q 729 <;> simp_all)
    clear hbad
    go_enter Try.func8, Try.ntmps8
    go_wp2_with (first
      | (go_at_call 24; refine (specOrRel _ _ _ bigp bigq Hp.out Hq.out).mono ?_; rintro e w1 ⟨rfl, hb1⟩)
      | (go_at_call 25; refine (implOrRel _ _ _ bigp bigq Hp.out Hq.out).mono ?_; rintro e w2 ⟨rfl, hb2⟩))
    go_ret
    exact ⟨by simp, by repeat (first | exact Below.refl _ _ | assumption | refine grewA ?_ _ | refine grew ?_ (by assumption))⟩
end Go.Proofs.Ytinnkkhpgcmbhaa.La
