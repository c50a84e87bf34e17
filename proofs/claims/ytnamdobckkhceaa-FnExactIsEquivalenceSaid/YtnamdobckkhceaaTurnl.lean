/- Contracts and law: a relation out of a function value (makeRel); TurnRel. -/
import Derived.Test.YtnamdobckkhceaaTurn
namespace Go.Proofs.Ytnamdobckkhceaa.Tl
open Go.RowKit Go.Deep Go.Proofs.Ytnamdobckkhceaa.Bi Go.Proofs.Ytnamdobckkhceaa.Ro Go.Proofs.Ytnamdobckkhceaa.Se Go.Proofs.Ytnamdobckkhceaa.Mk Go.Proofs.Ytnamdobckkhceaa.Rl Go.Proofs.Ytnamdobckkhceaa.Nu Go.Proofs.Ytnamdobckkhceaa.Tu
set_option linter.unusedVariables false

/-- A function value of two numbers that answers g, and only lays blocks. -/
def Tells2 (K : Nat) (cap : Array Value) (g : Nat → Nat → Bool) (w : World) : Prop :=
  ∀ i j, i < 27 → j < 27 → ∀ W, Below w.heap.size w W → Calls Try.prog K (#[.int .i64 (i : Int), .int .i64 (j : Int)] ++ cap) W fun e W' => e = .returned (.bool (g i j)) ∧ Below W.heap.size W W'
def strV : Option ByteArray → Value
  | none => .tuple #[.string ⟨#[]⟩, .bool false]
  | some v => .tuple #[.string v, .bool true]
theorem tells_rel (K : Nat) (cap : Array Value) (g : Nat → Nat → Bool) (w : World) (b : Nat) (hc : w.cell? ⟨b, 0, none⟩ = some (.func (.func K) #[] cap)) (hcall : ∀ (a : Array Value) (W : World), (callFunc K a).run Try.prog W = .ok (.enter K a) W) (hf : Tells2 K cap g w) :
    Tells 62 #[.pointer (some ⟨b, 0, none⟩)] 729 (fun k => g (k / 27) (k % 27)) w := by
  intro i hi W hb
  have c1 := (hb.cell (p := ⟨b, 0, none⟩) (block_lt_of_cell hc)).trans hc
  have HF := Lib.hid (hf (i / 27) (i % 27) (by omega) (by omega) W hb)
  rw [show ((i / 27 : Nat) : Int) = (i : Int) / 27 by omega, show ((i % 27 : Nat) : Int) = (i : Int) % 27 by omega] at HF
  have q3 : ¬ (i : Int) < 0 := by omega
  show Calls Try.prog 62 #[.int .i64 (i : Int), .pointer (some ⟨b, 0, none⟩)] W _
  clear hc hf hb
  go_enter Try.func62, Try.ntmps62
  go_wp2_with fail
  refine (HF.out).mono ?_
  rintro e w1 ⟨rfl, hb1⟩
  go_wp2_with fail
  go_ret
  exact ⟨rfl, hb1⟩
theorem makeRel (K : Nat) (cap : Array Value) (g : Nat → Nat → Bool) (w : World) (hcall : ∀ (a : Array Value) (W : World), (callFunc K a).run Try.prog W = .ok (.enter K a) W) (hf : Tells2 K cap g w) :
    Calls Try.prog 46 #[.func (.func K) #[] cap] w fun e w' => e = .returned (.string (relS g 27)) ∧ Below w.heap.size w w' := by
  have HF := Lib.hid hf; clear hf
  have HC := Lib.hid hcall; clear hcall
  go_enter Try.func46, Try.ntmps46
  go_wp2_with fail
  have hb0 : Below w.heap.size w (w.alloc (.cells #[.func (.func K) #[] cap] 54)) := (Below.refl _ w).alloc (Nat.le_refl _) _
  refine (makeBits 729 62 #[.pointer (some ⟨w.heap.size, 0, none⟩)] (fun k => g (k / 27) (k % 27)) _ (by omega) (fun _ _ => by simp [go_sem]) (tells_rel K cap g _ w.heap.size (by simp [World.cell?_alloc_at]) HC.out (fun i j hi hj W hW => HF.out i j hi hj W (hb0.trans (hW.mono (by simp)))))).mono ?_
  rintro e w1 ⟨rfl, hb1⟩
  have HB := Lib.hid (hb0.trans (hb1.mono (by simp)))
  clear hb0 hb1
  go_wp2_with fail
  go_ret
  exact ⟨rfl, HB.out⟩
def turnV (r : ByteArray) : Option ByteArray := if bitsB r 729 then some (relS (fun i j => relT r j i) 27) else none
set_option maxRecDepth 100000 in
theorem specTurnRel (r : ByteArray) (w : World) (hr : r.size ≤ 1048576) : Calls Try.prog 14 #[.string r] w fun e w' => e = .returned (strV (turnV r)) ∧ Below w.heap.size w w' := by
  have hr' : r.size ≤ maxLen := by unfold maxLen; omega
  have HV := Lib.hid (fun w => specRelValid r w hr')
  cases h : bitsB r 729 with
  | false =>
    have H := Lib.hid (show turnV r = none by simp [turnV, h])
    rw [h] at HV
    clear h
    go_enter Try.func14, Try.ntmps14
    go_wp2_with fail
    refine (HV.out _).mono ?_
    rintro e w1 ⟨rfl, rfl⟩
    go_wp2_with fail
    exact bodyPost_ret (v := .tuple #[.string ⟨#[]⟩, .bool false]) (by simp [results, Try.results14, go_sem]) rfl ⟨by rw [H.out]; rfl, Below.refl _ _⟩
  | true =>
    have H := Lib.hid (show turnV r = some _ by simp only [turnV, h]; rfl)
    rw [h] at HV
    have HR := Lib.hid (fun w => specRead r w (by have := bits_size h; omega))
    have HT := Lib.hid (fun w => specTurn (relT r) w)
    have HX := Lib.hid (fun w => specRelText (fun i j => relT r j i) w)
    obtain ⟨a1, ha1⟩ : ∃ a, arrR (relT r) = a := ⟨_, rfl⟩
    obtain ⟨a2, ha2⟩ : ∃ a, arrR (fun i j => relT r j i) = a := ⟨_, rfl⟩
    obtain ⟨s, hs⟩ : ∃ s, relS (fun i j => relT r j i) 27 = s := ⟨_, rfl⟩
    rw [ha1] at HR HT
    rw [ha2] at HT HX
    rw [hs] at HX H
    clear h ha1 ha2 hs
    go_enter Try.func14, Try.ntmps14
    go_wp2_with fail
    refine (HV.out _).mono ?_
    rintro e w1 ⟨rfl, rfl⟩
    go_wp2_with fail
    refine (HR.out _).mono ?_
    rintro e w2 ⟨rfl, hb2⟩
    go_wp2_with fail
    refine (HT.out _).mono ?_
    rintro e w3 ⟨rfl, hb3⟩
    go_wp2_with fail
    refine (HX.out _).mono ?_
    rintro e w4 ⟨rfl, hb4⟩
    have hb5 := hb2.trans ((hb3.trans (hb4.mono hb3.size)).mono hb2.size)
    go_wp2_with fail
    exact bodyPost_ret (v := .tuple #[.string s, .bool true]) (by simp [results, Try.results14, go_sem]) rfl ⟨by rw [H.out]; rfl, hb5⟩
theorem tells_turn (r : ByteArray) (w : World) (b : Nat) (hc : w.cell? ⟨b, 0, none⟩ = some (.string r)) (hs : r.size = 729) : Tells2 47 #[.pointer (some ⟨b, 0, none⟩)] (fun i j => relT r j i) w := by
  intro i j hi hj W hb
  have c1 := (hb.cell (p := ⟨b, 0, none⟩) (block_lt_of_cell hc)).trans hc
  have HP := Lib.hid (fun w => implPair r j i w hs hj hi)
  show Calls Try.prog 47 #[.int .i64 (i : Int), .int .i64 (j : Int), .pointer (some ⟨b, 0, none⟩)] W _
  clear hc hb
  go_enter Try.func47, Try.ntmps47
  go_wp2_with fail
  refine (HP.out _).mono ?_
  rintro e w1 ⟨rfl, rfl⟩
  go_wp2_with fail
  go_ret
  exact ⟨rfl, Below.refl _ _⟩
set_option maxRecDepth 100000 in
theorem implTurnRel (r : ByteArray) (w : World) (hr : r.size ≤ 1048576) : Calls Try.prog 15 #[.string r] w fun e w' => e = .returned (strV (turnV r)) ∧ Below w.heap.size w w' := by
  have hr' : r.size ≤ maxLen := by unfold maxLen; omega
  have HV := Lib.hid (fun w => implRelValid r w hr')
  have hb0 : Below w.heap.size w (w.alloc (.cells #[.string r] 9)) := (Below.refl _ w).alloc (Nat.le_refl _) _
  have HB0 := Lib.hid hb0
  clear hb0
  cases h : bitsB r 729 with
  | false =>
    have H := Lib.hid (show turnV r = none by simp [turnV, h])
    rw [h] at HV
    clear h
    go_enter Try.func15, Try.ntmps15
    go_wp2_with fail
    refine (HV.out _).mono ?_
    rintro e w1 ⟨rfl, rfl⟩
    go_wp2_with fail
    exact bodyPost_ret (v := .tuple #[.string ⟨#[]⟩, .bool false]) (by simp [results, Try.results15, go_sem]) rfl ⟨by rw [H.out]; rfl, HB0.out⟩
  | true =>
    have H := Lib.hid (show turnV r = some _ by simp only [turnV, h]; rfl)
    rw [h] at HV
    have HT := Lib.hid (tells_turn r (w.alloc (.cells #[.string r] 9)) w.heap.size (by simp [World.cell?_alloc_at]) (by have := bits_size h; omega))
    have HM := Lib.hid (makeRel 47 #[.pointer (some ⟨w.heap.size, 0, none⟩)] _ _ (fun _ _ => by simp [go_sem]) HT.out)
    obtain ⟨s, hs⟩ : ∃ s, relS (fun i j => relT r j i) 27 = s := ⟨_, rfl⟩
    rw [hs] at HM H
    clear h hs HT
    go_enter Try.func15, Try.ntmps15
    go_wp2_with fail
    refine (HV.out _).mono ?_
    rintro e w1 ⟨rfl, rfl⟩
    go_wp2_with fail
    refine (HM.out).mono ?_
    rintro e w2 ⟨rfl, hb2⟩
    have HB := Lib.hid (HB0.out.trans (hb2.mono (by simp)))
    clear hb2
    go_wp2_with fail
    exact bodyPost_ret (v := .tuple #[.string s, .bool true]) (by simp [results, Try.results15, go_sem]) rfl ⟨by rw [H.out]; rfl, HB.out⟩
set_option maxRecDepth 100000 in
set_option maxHeartbeats 2000000 in
theorem lawTurnRel (r : ByteArray) (w : World) (hr : r.size ≤ maxLen) : Calls Try.prog 5 #[.string r] w fun e w' => e = .returned (.bool true) ∧ Below w.heap.size w w' := by
  by_cases hbr : r.size ≤ 1048576
  · have h1r : (r.size : Int) ≤ 1048576 := by omega
    have HA := Lib.hid (fun w => specTurnRel r w hbr)
    have HB := Lib.hid (fun w => implTurnRel r w hbr)
    cases h : turnV r with
    | none =>
      rw [h] at HA HB
      simp only [strV] at HA HB
      clear h
      go_enter Try.func5, Try.ntmps5
      go_wp2_with (first
        | (go_at_call 14; refine (HA.out _).mono ?_; rintro e w1 ⟨rfl, hw1⟩)
        | (go_at_call 15; refine (HB.out _).mono ?_; rintro e w2 ⟨rfl, hw2⟩))
      go_ret
      exact ⟨rfl, hw1.trans (hw2.mono hw1.size)⟩
    | some v =>
      rw [h] at HA HB
      simp only [strV] at HA HB
      clear h
      go_enter Try.func5, Try.ntmps5
      go_wp2_with (first
        | (go_at_call 14; refine (HA.out _).mono ?_; rintro e w1 ⟨rfl, hw1⟩)
        | (go_at_call 15; refine (HB.out _).mono ?_; rintro e w2 ⟨rfl, hw2⟩))
      go_ret
      exact ⟨rfl, hw1.trans (hw2.mono hw1.size)⟩
  · have h1r : (1048576 : Int) < (r.size : Int) := by omega
    go_enter Try.func5, Try.ntmps5
    go_wp2_with fail
    go_ret
    exact ⟨rfl, Below.refl _ _⟩
end Go.Proofs.Ytnamdobckkhceaa.Tl
