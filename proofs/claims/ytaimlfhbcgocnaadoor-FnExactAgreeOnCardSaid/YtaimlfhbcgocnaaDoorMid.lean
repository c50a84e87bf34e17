/- For the reader's walk: the state behind its switch, and in its loop over the parts that are wanted. -/
import Derived.Test.YtaimlfhbcgocnaaDoorKids
import Derived.Test.YtaimlfhbcgocnaaDoorBits
namespace Go.Proofs.YtaimlfhbcgocnaaDoor.Pl
open Go.RowKit Go.Deep

theorem size_set (w : World) (p : Addr) (v : Value) : (w.setCell p v).heap.size = w.heap.size := by simp [World.setCell]
theorem lt_of_block {w : World} {k : Nat} {o : Obj} (h : w.heap[k]? = some o) : k < w.heap.size := (Array.getElem?_eq_some_iff.1 h).1
/-- A world that differs in the reader's index alone. -/
theorem below_self {B : Nat} {w w' : World} {rb o : Nat} {v : Value} (hc : w.cell? ⟨rb, o, none⟩ = some v) (h : Below B w w') : Below B (w.setCell ⟨rb, o, none⟩ v) w' := by
  refine ⟨h.os, h.tape, h.output, by rw [size_set]; exact h.size, fun k hk => ?_⟩
  rw [h.block k hk, setCell_heap]
  by_cases e : k = rb
  · subst e
    rw [if_pos rfl]
    unfold World.cell? at hc
    cases hb : w.heap[k]? with
    | none => rfl
    | some ob =>
      rw [hb] at hc
      cases ob with
      | cells c el fr =>
        simp at hc
        simp
        apply Array.ext
        · simp
        · intro i h1 h2
          rw [Array.getElem_setIfInBounds]
          split
          · rename_i e; subst e; rw [Array.getElem?_eq_some_iff] at hc; exact hc.2
          · rfl
      | _ => rfl
  · rw [if_neg e]
theorem cell_of_block {w : World} {g : Nat} {cs : Array Value} {t : TypeId} {fr : Nat × Nat} (h : w.heap[g]? = some (.cells cs t fr)) (o : Nat) : w.cell? ⟨g, o, none⟩ = cs[o]? := by
  unfold World.cell?; rw [h]; simp
/-- The reader's own cells, in a world that only laid blocks above it. -/
theorem rd_cells {B : Nat} {w wr : World} {rb m : Nat} {s : ByteArray} {wide : Bool} {u : Value} (h : Below B (w.setCell ⟨rb, 1, none⟩ (.int .i64 (m : Int))) wr) (hB : rb < B)
    (hc0 : w.cell? ⟨rb, 0, none⟩ = some (.string s)) (hc1 : w.cell? ⟨rb, 1, none⟩ = some u) (hc2 : w.cell? ⟨rb, 2, none⟩ = some (.bool wide)) (hf1 : w.frozen? ⟨rb, 1, none⟩ = false) :
    wr.cell? ⟨rb, 0, none⟩ = some (.string s) ∧ wr.cell? ⟨rb, 1, none⟩ = some (.int .i64 (m : Int)) ∧ wr.cell? ⟨rb, 2, none⟩ = some (.bool wide) ∧ wr.frozen? ⟨rb, 1, none⟩ = false := by
  refine ⟨?_, ?_, ?_, ?_⟩
  · rw [h.cell hB, World.cell?_setCell_other _ _ _ _ (by simp)]; exact hc0
  · rw [h.cell hB]; exact World.cell?_setCell_same _ _ _ hc1
  · rw [h.cell hB, World.cell?_setCell_other _ _ _ _ (by simp)]; exact hc2
  · rw [h.frozen hB, World.frozen?_setCell]; exact hf1
theorem drop_at {s : ByteArray} {a : Nat} (h : a < s.size) : s.data.toList.drop a = s[a] :: s.data.toList.drop (a + 1) := by
  have h' : a < s.data.toList.length := by simpa using h
  rw [List.drop_eq_getElem_cons h']; rfl
theorem row_abides {w w1 : World} {rb o base : Nat} {u : Value} {e : TypeId} {v : Value} {n : Nat} {xs : List Value} (h : w.ownsRow base e 1 v n xs) (hb : rb < base) (h1 : Below w.heap.size (w.setCell ⟨rb, o, none⟩ u) w1) : w1.ownsRow base e 1 v n xs := by
  have h2 := ownsRow_setCell_below h (a := ⟨rb, o, none⟩) hb u
  have hg : (w.setCell ⟨rb, o, none⟩ u).grownBy w1 none := ⟨h1.os, h1.tape, h1.output, h1.size, fun k hk _ => h1.block k (by rw [size_set] at hk; exact hk)⟩
  cases hv : v.ownBlock with
  | none => exact h2.kept hg (.inl hv)
  | some g => exact h2.kept hg (.inr (by rw [hv]; simp))
end Go.Proofs.YtaimlfhbcgocnaaDoor.Pl
