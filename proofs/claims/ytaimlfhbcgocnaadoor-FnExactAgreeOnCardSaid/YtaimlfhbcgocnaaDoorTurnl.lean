/- Contracts and law: a relation out of a function value (makeRel); TurnRel. -/
import Derived.Test.YtaimlfhbcgocnaaDoorTurn
namespace Go.Proofs.YtaimlfhbcgocnaaDoor.Tl
open Go.RowKit Go.Deep Go.Proofs.YtaimlfhbcgocnaaDoor.Bi Go.Proofs.YtaimlfhbcgocnaaDoor.Ro Go.Proofs.YtaimlfhbcgocnaaDoor.Se Go.Proofs.YtaimlfhbcgocnaaDoor.Mk Go.Proofs.YtaimlfhbcgocnaaDoor.Rl Go.Proofs.YtaimlfhbcgocnaaDoor.Nu Go.Proofs.YtaimlfhbcgocnaaDoor.Tu
set_option linter.unusedVariables false

/-- A function value of two numbers that answers g, and only lays blocks. -/
def Tells2 (K : Nat) (cap : Array Value) (g : Nat → Nat → Bool) (w : World) : Prop :=
  ∀ i j, i < 27 → j < 27 → ∀ W, Below w.heap.size w W → Calls Tryd.prog K (#[.int .i64 (i : Int), .int .i64 (j : Int)] ++ cap) W fun e W' => e = .returned (.bool (g i j)) ∧ Below W.heap.size W W'
def strV : Option ByteArray → Value
  | none => .tuple #[.string ⟨#[]⟩, .bool false]
  | some v => .tuple #[.string v, .bool true]
theorem tells_rel (K : Nat) (cap : Array Value) (g : Nat → Nat → Bool) (w : World) (b : Nat) (hc : w.cell? ⟨b, 0, none⟩ = some (.func (.func K) #[] cap)) (hcall : ∀ (a : Array Value) (W : World), (callFunc K a).run Tryd.prog W = .ok (.enter K a) W) (hf : Tells2 K cap g w) :
    Tells 19 #[.pointer (some ⟨b, 0, none⟩)] 729 (fun k => g (k / 27) (k % 27)) w := by
  intro i hi W hb
  have c1 := (hb.cell (p := ⟨b, 0, none⟩) (block_lt_of_cell hc)).trans hc
  have HF := Lib.hid (hf (i / 27) (i % 27) (by omega) (by omega) W hb)
  rw [show ((i / 27 : Nat) : Int) = (i : Int) / 27 by omega, show ((i % 27 : Nat) : Int) = (i : Int) % 27 by omega] at HF
  have q3 : ¬ (i : Int) < 0 := by omega
  show Calls Tryd.prog 19 #[.int .i64 (i : Int), .pointer (some ⟨b, 0, none⟩)] W _
  clear hc hf hb
  go_enter Tryd.func19, Tryd.ntmps19
  go_wp2_with fail
  refine (HF.out).mono ?_
  rintro e w1 ⟨rfl, hb1⟩
  go_wp2_with fail
  go_ret
  exact ⟨rfl, hb1⟩
theorem makeRel (K : Nat) (cap : Array Value) (g : Nat → Nat → Bool) (w : World) (hcall : ∀ (a : Array Value) (W : World), (callFunc K a).run Tryd.prog W = .ok (.enter K a) W) (hf : Tells2 K cap g w) :
    Calls Tryd.prog 10 #[.func (.func K) #[] cap] w fun e w' => e = .returned (.string (relS g 27)) ∧ Below w.heap.size w w' := by
  have HF := Lib.hid hf; clear hf
  have HC := Lib.hid hcall; clear hcall
  go_enter Tryd.func10, Tryd.ntmps10
  go_wp2_with fail
  have hb0 : Below w.heap.size w (w.alloc (.cells #[.func (.func K) #[] cap] 28)) := (Below.refl _ w).alloc (Nat.le_refl _) _
  refine (makeBits 729 19 #[.pointer (some ⟨w.heap.size, 0, none⟩)] (fun k => g (k / 27) (k % 27)) _ (by omega) (fun _ _ => by simp [go_sem]) (tells_rel K cap g _ w.heap.size (by simp [World.cell?_alloc_at]) HC.out (fun i j hi hj W hW => HF.out i j hi hj W (hb0.trans (hW.mono (by simp)))))).mono ?_
  rintro e w1 ⟨rfl, hb1⟩
  have HB := Lib.hid (hb0.trans (hb1.mono (by simp)))
  clear hb0 hb1
  go_wp2_with fail
  go_ret
  exact ⟨rfl, HB.out⟩
def turnV (r : ByteArray) : Option ByteArray := if bitsB r 729 then some (relS (fun i j => relT r j i) 27) else none
end Go.Proofs.YtaimlfhbcgocnaaDoor.Tl
