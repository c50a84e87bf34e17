/- Contracts: what two texts of bits have both, or one of them, or one has not; one text within another. -/
import Derived.Test.YtaimlfhbcgocnaaDoorBits
import Derived.Test.YtaimlfhbcgocnaaDoorRow
namespace Go.Proofs.YtaimlfhbcgocnaaDoor.Bi
open Go.RowKit Go.Proofs.YtaimlfhbcgocnaaDoor.Ro

theorem infoU8 : (Tryd.prog.info? 5).map (fun i => (i.zero, i.size, i.bytes)) = some (some (.int .u8 0), 1, 1) := by kernel_rfl
theorem convU8 {w : World} {b t n cap : Nat} {g : Nat → UInt8} (h : w.rowIs b t n (fun i => .int .u8 (g i).toNat)) :
    (convert 52 9 (.slice (some ⟨b, 0, none⟩) n cap)).run Tryd.prog w = .ok (.string (mk n g)) w :=
  run_string_of_row Tryd.underlying52 Tryd.underlying5 Tryd.underlying9 h
/-- What stands in the row behind k rounds. -/
def fillTo (g : Nat → UInt8) (k : Nat) (j : Nat) : Value := if j < k then .int .u8 (g j).toNat else .int .u8 0
theorem fill_zero (w : World) (g : Nat → UInt8) (n t : Nat) : (w.alloc (.cells (madeCells #[.int .u8 0] n) t)).rowIs w.heap.size t n (fillTo g 0) :=
  (World.rowIs_made w (.int .u8 0) n t).congr fun i _ => by simp [fillTo]
theorem fill_step {w : World} {b t n : Nat} {g : Nat → UInt8} {k : Nat} (h : w.rowIs b t n (fillTo g k)) {v : Value} (hv : v = .int .u8 (g k).toNat) : (w.setCell ⟨b, k, none⟩ v).rowIs b t n (fillTo g (k + 1)) :=
  (h.set k v).congr fun i _ => by
    subst hv
    unfold fillTo
    by_cases e : i = k
    · subst e; simp
    · simp only [if_neg e]
      by_cases h1 : i < k
      · rw [if_pos h1, if_pos (by omega)]
      · rw [if_neg h1, if_neg (by omega)]
theorem fill_all {w : World} {b t n : Nat} {g : Nat → UInt8} (h : w.rowIs b t n (fillTo g n)) : w.rowIs b t n (fun i => .int .u8 (g i).toNat) :=
  h.congr fun i hi => by simp [fillTo, hi]

end Go.Proofs.YtaimlfhbcgocnaaDoor.Bi
