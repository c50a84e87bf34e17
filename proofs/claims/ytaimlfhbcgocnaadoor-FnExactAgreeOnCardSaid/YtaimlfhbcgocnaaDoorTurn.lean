/- Contracts and law: TurnRel. -/
import Derived.Test.YtaimlfhbcgocnaaDoorRel
import Derived.Test.YtaimlfhbcgocnaaDoorPair
namespace Go.Proofs.YtaimlfhbcgocnaaDoor.Tu
open Go.RowKit Go.Deep Go.Proofs.YtaimlfhbcgocnaaDoor.Bi Go.Proofs.YtaimlfhbcgocnaaDoor.Ro Go.Proofs.YtaimlfhbcgocnaaDoor.Se Go.Proofs.YtaimlfhbcgocnaaDoor.Mk Go.Proofs.YtaimlfhbcgocnaaDoor.Rl Go.Proofs.YtaimlfhbcgocnaaDoor.Nu
set_option linter.unusedVariables false

theorem three_laid (w : World) (t : TypeId) (c : Array Value) (f : Nat → Value) (hc : (w.alloc (.cells c t)).rowIs w.heap.size t 27 f) :
    ((((w.alloc (.cells c t)).alloc (.cells zero27 t)).alloc (.cells zero27 t)).setCells (w.heap.size + 2) 0 zero27.toList).rowIs (w.heap.size + 2) t 27 (fun _ => .int .i64 0) ∧
    (∃ f, ((((w.alloc (.cells c t)).alloc (.cells zero27 t)).alloc (.cells zero27 t)).setCells (w.heap.size + 2) 0 zero27.toList).rowIs (w.heap.size + 1) t 27 f) ∧
    ((((w.alloc (.cells c t)).alloc (.cells zero27 t)).alloc (.cells zero27 t)).setCells (w.heap.size + 2) 0 zero27.toList).rowIs w.heap.size t 27 f ∧
    Below w.heap.size w ((((w.alloc (.cells c t)).alloc (.cells zero27 t)).alloc (.cells zero27 t)).setCells (w.heap.size + 2) 0 zero27.toList) := by
  have h := rows_laid (w.alloc (.cells c t)) t
  rw [show (w.alloc (.cells c t)).heap.size = w.heap.size + 1 by simp] at h
  obtain ⟨h1, h2, h3⟩ := h
  exact ⟨h1, h2, row_other _ _ _ _ ((hc.alloc _).alloc _) (by omega), ((Below.refl _ w).alloc (Nat.le_refl _) _).trans (h3.mono (by omega))⟩
/-- The turned relation, behind i rows and j columns of the next one. -/
def tuN (R : Nat → Nat → Bool) (i j : Nat) (u : Nat) : Nat := msk (fun i' => R i' u) (if u < j then i + 1 else i)
theorem tu_lt (R : Nat → Nat → Bool) {i j u : Nat} (h : i < 27) : tuN R i j u < 134217728 := by
  unfold tuN
  split
  · exact msk27_lt _ (by omega)
  · exact msk27_lt _ (by omega)
theorem tu_next (R : Nat → Nat → Bool) (i u : Nat) (h : u < 27) : tuN R i 27 u = tuN R (i + 1) 0 u := by simp [tuN, h]
theorem tu_set {w : World} {b t : Nat} {R : Nat → Nat → Bool} {i j : Nat} (h : w.rowIs b t 27 (fun u => .int .i64 (tuN R i j u : Int))) {v : Value} (hv : v = .int .i64 (tuN R i (j + 1) j : Int)) :
    (w.setCell ⟨b, j, none⟩ v).rowIs b t 27 (fun u => .int .i64 (tuN R i (j + 1) u : Int)) := (h.set j v).congr fun u _ => by
  subst hv
  by_cases e : u = j
  · subst e; simp
  · simp only [if_neg e]
    have : tuN R i j u = tuN R i (j + 1) u := by
      unfold tuN
      by_cases h1 : u < j
      · rw [if_pos h1, if_pos (by omega)]
      · rw [if_neg h1, if_neg (by omega)]
    rw [this]
theorem tu_keep {w : World} {b t : Nat} {R : Nat → Nat → Bool} {i j : Nat} (h : w.rowIs b t 27 (fun u => .int .i64 (tuN R i j u : Int))) (hr : R i j = false) :
    w.rowIs b t 27 (fun u => .int .i64 (tuN R i (j + 1) u : Int)) := h.congr fun u _ => by
  by_cases e : u = j
  · subst e
    simp [tuN, msk, hr]
  · have : tuN R i j u = tuN R i (j + 1) u := by
      unfold tuN
      by_cases h1 : u < j
      · rw [if_pos h1, if_pos (by omega)]
      · rw [if_neg h1, if_neg (by omega)]
    rw [this]
end Go.Proofs.YtaimlfhbcgocnaaDoor.Tu
