/- Contracts and laws: JoinPrograms, HeadOf. -/
import Derived.Test.YtfmmpahafliklaaSw
namespace Go.Proofs.Ytfmmpahafliklaa.Jn
open Go.RowKit Go.Deep Go.Proofs.Ytfmmpahafliklaa.Pl Go.Proofs.Ytfmmpahafliklaa.Bi Go.Proofs.Ytfmmpahafliklaa.Fi Go.Proofs.Ytfmmpahafliklaa.Ed Go.Proofs.Ytfmmpahafliklaa.Ps Go.Proofs.Ytfmmpahafliklaa.Sw
set_option linter.unusedVariables false

def joinB (p q : ByteArray) : Option ByteArray := if okS false 2 200 p && (okS false 2 200 q && decide (p.size + q.size < 200)) then some (⟨#[59]⟩ ++ p ++ q) else none
def strV : Option ByteArray → Value
  | none => .tuple #[.string ⟨#[]⟩, .bool false]
  | some v => .tuple #[.string v, .bool true]
set_option maxRecDepth 100000 in
set_option maxHeartbeats 2000000 in
theorem specJoin (p q : ByteArray) (w : World) (hp : p.size ≤ 1048576) (hq : q.size ≤ 1048576) :
    Calls Try.prog 29 #[.string p, .string q] w fun e w' => e = .returned (strV (joinB p q)) ∧ Below w.heap.size w w' := by
  have hvp := Lib.hid (fun w => specProgramValid p w hp)
  have hvq := Lib.hid (fun w => specProgramValid q w hq)
  cases h1 : okS false 2 200 p with
  | false =>
    have H := Lib.hid (show joinB p q = none by simp [joinB, h1])
    rw [h1] at hvp
    clear h1
    go_enter Try.func29, Try.ntmps29
    go_wp2_with fail
    refine (hvp.out _).mono ?_
    rintro e w1 ⟨rfl, hb1⟩
    go_wp2_with fail
    exact bodyPost_ret (v := .tuple #[.string ⟨#[]⟩, .bool false]) (by simp [results, Try.results29, go_sem]) rfl ⟨by rw [H.out]; rfl, hb1⟩
  | true =>
    cases h2 : okS false 2 200 q with
    | false =>
      have H := Lib.hid (show joinB p q = none by simp [joinB, h2])
      rw [h1] at hvp
      rw [h2] at hvq
      clear h1 h2
      go_enter Try.func29, Try.ntmps29
      go_wp2_with fail
      refine (hvp.out _).mono ?_
      rintro e w1 ⟨rfl, hb1⟩
      go_wp2_with fail
      refine (hvq.out _).mono ?_
      rintro e w2 ⟨rfl, hb2⟩
      go_wp2_with fail
      exact bodyPost_ret (v := .tuple #[.string ⟨#[]⟩, .bool false]) (by simp [results, Try.results29, go_sem]) rfl ⟨by rw [H.out]; rfl, grew hb1 hb2⟩
    | true =>
      have hsp := (okS_is h1).1
      have hsq := (okS_is h2).1
      rw [h1] at hvp
      rw [h2] at hvq
      have z1 : (p.size : Int) ≤ 200 := by omega
      have z2 : (q.size : Int) ≤ 200 := by omega
      by_cases hl : p.size + q.size < 200
      · have H := Lib.hid (show joinB p q = some (⟨#[59]⟩ ++ p ++ q) by simp [joinB, h1, h2, hl])
        have g : (p.size : Int) + (q.size : Int) < 200 := by omega
        clear h1 h2 hl
        go_enter Try.func29, Try.ntmps29
        go_wp2_with fail
        refine (hvp.out _).mono ?_
        rintro e w1 ⟨rfl, hb1⟩
        go_wp2_with fail
        refine (hvq.out _).mono ?_
        rintro e w2 ⟨rfl, hb2⟩
        go_wp2_with fail
        exact bodyPost_ret (v := .tuple #[.string (⟨#[59]⟩ ++ p ++ q), .bool true]) (by simp [results, Try.results29, go_sem]) rfl ⟨by rw [H.out]; rfl, grew hb1 hb2⟩
      · have H := Lib.hid (show joinB p q = none by simp [joinB]; intros; omega)
        have g : (200 : Int) ≤ (p.size : Int) + (q.size : Int) := by omega
        clear h1 h2 hl
        go_enter Try.func29, Try.ntmps29
        go_wp2_with fail
        refine (hvp.out _).mono ?_
        rintro e w1 ⟨rfl, hb1⟩
        go_wp2_with fail
        refine (hvq.out _).mono ?_
        rintro e w2 ⟨rfl, hb2⟩
        go_wp2_with fail
        exact bodyPost_ret (v := .tuple #[.string ⟨#[]⟩, .bool false]) (by simp [results, Try.results29, go_sem]) rfl ⟨by rw [H.out]; rfl, grew hb1 hb2⟩
set_option maxRecDepth 100000 in
set_option maxHeartbeats 2000000 in
theorem implJoin (p q : ByteArray) (w : World) (hp : p.size ≤ 1048576) (hq : q.size ≤ 1048576) :
    Calls Try.prog 30 #[.string p, .string q] w fun e w' => e = .returned (strV (joinB p q)) ∧ Below w.heap.size w w' := by
  have hvp := Lib.hid (fun w => implProgramValid p w hp)
  have hvq := Lib.hid (fun w => implProgramValid q w hq)
  cases h1 : okS false 2 200 p with
  | false =>
    have H := Lib.hid (show joinB p q = none by simp [joinB, h1])
    rw [h1] at hvp
    clear h1
    go_enter Try.func30, Try.ntmps30
    go_wp2_with fail
    refine (hvp.out _).mono ?_
    rintro e w1 ⟨rfl, hb1⟩
    go_wp2_with fail
    exact bodyPost_ret (v := .tuple #[.string ⟨#[]⟩, .bool false]) (by simp [results, Try.results30, go_sem]) rfl ⟨by rw [H.out]; rfl, hb1⟩
  | true =>
    cases h2 : okS false 2 200 q with
    | false =>
      have H := Lib.hid (show joinB p q = none by simp [joinB, h2])
      rw [h1] at hvp
      rw [h2] at hvq
      clear h1 h2
      go_enter Try.func30, Try.ntmps30
      go_wp2_with fail
      refine (hvp.out _).mono ?_
      rintro e w1 ⟨rfl, hb1⟩
      go_wp2_with fail
      refine (hvq.out _).mono ?_
      rintro e w2 ⟨rfl, hb2⟩
      go_wp2_with fail
      exact bodyPost_ret (v := .tuple #[.string ⟨#[]⟩, .bool false]) (by simp [results, Try.results30, go_sem]) rfl ⟨by rw [H.out]; rfl, grew hb1 hb2⟩
    | true =>
      have hsp := (okS_is h1).1
      have hsq := (okS_is h2).1
      rw [h1] at hvp
      rw [h2] at hvq
      have z1 : (p.size : Int) ≤ 200 := by omega
      have z2 : (q.size : Int) ≤ 200 := by omega
      by_cases hl : p.size + q.size < 200
      · have H := Lib.hid (show joinB p q = some (⟨#[59]⟩ ++ p ++ q) by simp [joinB, h1, h2, hl])
        have g : (p.size : Int) + (q.size : Int) + 1 ≤ 200 := by omega
        clear h1 h2 hl
        go_enter Try.func30, Try.ntmps30
        go_wp2_with fail
        refine (hvp.out _).mono ?_
        rintro e w1 ⟨rfl, hb1⟩
        go_wp2_with fail
        refine (hvq.out _).mono ?_
        rintro e w2 ⟨rfl, hb2⟩
        go_wp2_with fail
        exact bodyPost_ret (v := .tuple #[.string (⟨#[59]⟩ ++ p ++ q), .bool true]) (by simp [results, Try.results30, go_sem]) rfl ⟨by rw [H.out]; rfl, grew hb1 hb2⟩
      · have H := Lib.hid (show joinB p q = none by simp [joinB]; intros; omega)
        have g : (200 : Int) < (p.size : Int) + (q.size : Int) + 1 := by omega
        clear h1 h2 hl
        go_enter Try.func30, Try.ntmps30
        go_wp2_with fail
        refine (hvp.out _).mono ?_
        rintro e w1 ⟨rfl, hb1⟩
        go_wp2_with fail
        refine (hvq.out _).mono ?_
        rintro e w2 ⟨rfl, hb2⟩
        go_wp2_with fail
        exact bodyPost_ret (v := .tuple #[.string ⟨#[]⟩, .bool false]) (by simp [results, Try.results30, go_sem]) rfl ⟨by rw [H.out]; rfl, grew hb1 hb2⟩
set_option maxRecDepth 100000 in
set_option maxHeartbeats 2000000 in
theorem lawJoinPrograms (p q : ByteArray) (w : World) (hp : p.size ≤ maxLen) (hq : q.size ≤ maxLen) : Calls Try.prog 10 #[.string p, .string q] w fun e w' => e = .returned (.bool true) ∧ Below w.heap.size w w' := by
  by_cases hb1 : p.size ≤ 1048576
  · have h1 : (p.size : Int) ≤ 1048576 := by omega
    by_cases hb2 : q.size ≤ 1048576
    · have h2 : (q.size : Int) ≤ 1048576 := by omega
      have HA := Lib.hid (fun w => specJoin p q w hb1 hb2)
      have HB := Lib.hid (fun w => implJoin p q w hb1 hb2)
      cases h : joinB p q with
      | none =>
        rw [h] at HA HB
        simp only [strV] at HA HB
        clear h
        go_enter Try.func10, Try.ntmps10
        go_wp2_with (first
          | (go_at_call 29; refine (HA.out _).mono ?_; rintro e w1 ⟨rfl, hw1⟩)
          | (go_at_call 30; refine (HB.out _).mono ?_; rintro e w2 ⟨rfl, hw2⟩))
        go_ret
        exact ⟨rfl, grew hw1 hw2⟩
      | some v =>
        rw [h] at HA HB
        simp only [strV] at HA HB
        clear h
        go_enter Try.func10, Try.ntmps10
        go_wp2_with (first
          | (go_at_call 29; refine (HA.out _).mono ?_; rintro e w1 ⟨rfl, hw1⟩)
          | (go_at_call 30; refine (HB.out _).mono ?_; rintro e w2 ⟨rfl, hw2⟩))
        go_ret
        exact ⟨rfl, grew hw1 hw2⟩
    · have h2 : (1048576 : Int) < (q.size : Int) := by omega
      go_enter Try.func10, Try.ntmps10
      go_wp2_with fail
      go_ret
      exact ⟨rfl, Below.refl _ _⟩
  · have h1 : (1048576 : Int) < (p.size : Int) := by omega
    go_enter Try.func10, Try.ntmps10
    go_wp2_with fail
    go_ret
    exact ⟨rfl, Below.refl _ _⟩
end Go.Proofs.Ytfmmpahafliklaa.Jn
