/- Contracts: a pair in a relation. -/
import Derived.Test.YtaimlfhbcgocnaaDoorHas
import Derived.Lib.QuietBelow
namespace Go.Proofs.YtaimlfhbcgocnaaDoor.Nu
open Go.RowKit Go.Sort Go.Proofs.YtaimlfhbcgocnaaDoor.Ro Go.Proofs.YtaimlfhbcgocnaaDoor.Bi Go.Proofs.YtaimlfhbcgocnaaDoor.St Go.Proofs.YtaimlfhbcgocnaaDoor.Se

def pairB (s : ByteArray) (x y z a b c : Int) : Bool := bitsB s 729 && (stB x y z && (stB a b c && one s (27 * (ix x y z).toNat + (ix a b c).toNat)))
/-- The six cells of two states handed over by value, in every world of the region. -/
theorem cells6 (w : World) (t u : TypeId) (x y z a b c : Int) (p : Regrown) :
    let W := grow (redrawn (box (box w t x y z) u a b c) p.d) p.os
    (W.cell? ⟨w.heap.size, 0, none⟩ = some (.int .i64 x) ∧ W.cell? ⟨w.heap.size, 1, none⟩ = some (.int .i64 y) ∧ W.cell? ⟨w.heap.size, 2, none⟩ = some (.int .i64 z)) ∧
    (W.cell? ⟨w.heap.size + 1, 0, none⟩ = some (.int .i64 a) ∧ W.cell? ⟨w.heap.size + 1, 1, none⟩ = some (.int .i64 b) ∧ W.cell? ⟨w.heap.size + 1, 2, none⟩ = some (.int .i64 c)) := by
  refine ⟨⟨?_, ?_, ?_⟩, ⟨?_, ?_, ?_⟩⟩ <;> refine cell_regrown ?_ _ _ <;> simp [World.cell?_alloc_at, World.cell?_alloc_past]
theorem of_box {P : Program} {f : FuncId} {args : Array Value} {W : World} {v : Value} {o : Obj} (h : Calls P f args W fun e w' => e = .returned v ∧ W.alloc o = w') : Calls P f args W fun e w' => e = .returned v ∧ Below W.heap.size W w' :=
  h.mono fun _ _ ⟨he, hw⟩ => ⟨he, by rw [← hw]; exact (Below.refl _ _).alloc (Nat.le_refl _) _⟩
theorem of_same {P : Program} {f : FuncId} {args : Array Value} {W : World} {v : Value} (h : Calls P f args W fun e w' => e = .returned v ∧ W = w') : Calls P f args W fun e w' => e = .returned v ∧ Below W.heap.size W w' :=
  h.mono fun _ _ ⟨he, hw⟩ => ⟨he, by rw [← hw]; exact Below.refl _ _⟩
theorem as_value {P : Program} {f : FuncId} {args : Array Value} {W : World} {v v' : Value} (e : v = v') (h : Calls P f args W fun e w' => e = .returned v ∧ Below W.heap.size W w') : Calls P f args W fun e w' => e = .returned v' ∧ Below W.heap.size W w' := by rw [← e]; exact h
end Go.Proofs.YtaimlfhbcgocnaaDoor.Nu
