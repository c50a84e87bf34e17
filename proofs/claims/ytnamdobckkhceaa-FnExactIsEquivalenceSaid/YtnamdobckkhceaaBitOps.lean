/- Contracts: what two texts of bits have both, or one of them, or one has not; one text within another. -/
import Derived.Test.YtnamdobckkhceaaBits
import Derived.Test.YtnamdobckkhceaaRow
namespace Go.Proofs.Ytnamdobckkhceaa.Bi
open Go.RowKit Go.Proofs.Ytnamdobckkhceaa.Ro

theorem infoU8 : (Try.prog.info? 5).map (fun i => (i.zero, i.size, i.bytes)) = some (some (.int .u8 0), 1, 1) := by kernel_rfl
theorem convU8 {w : World} {b t n cap : Nat} {g : Nat → UInt8} (h : w.rowIs b t n (fun i => .int .u8 (g i).toNat)) :
    (convert 27 9 (.slice (some ⟨b, 0, none⟩) n cap)).run Try.prog w = .ok (.string (mk n g)) w :=
  run_string_of_row Try.underlying27 Try.underlying5 Try.underlying9 h
/-- What stands in the row behind k rounds. -/
def fillTo (g : Nat → UInt8) (k : Nat) (j : Nat) : Value := if j < k then .int .u8 (g j).toNat else .int .u8 0
theorem fill_zero (w : World) (g : Nat → UInt8) (n t : Nat) : (w.alloc (.cells (madeCells #[.int .u8 0] n) t)).rowIs w.heap.size t n (fillTo g 0) :=
  (World.rowIs_made w (.int .u8 0) n t).congr fun i _ => by simp [fillTo]
theorem fill_step {w : World} {b t n : Nat} {g : Nat → UInt8} {k : Nat} (h : w.rowIs b t n (fillTo g k)) {v : Value} (hv : v = .int .u8 (g k).toNat) : (w.setCell ⟨b, k, none⟩ v).rowIs b t n (fillTo g (k + 1)) :=
  (h.set k v).congr fun i _ => by
    subst hv
    unfold fillTo
    by_cases e : i = k
    · subst e; simp
    · simp only [if_neg e]
      by_cases h1 : i < k
      · rw [if_pos h1, if_pos (by omega)]
      · rw [if_neg h1, if_neg (by omega)]
theorem fill_all {w : World} {b t n : Nat} {g : Nat → UInt8} (h : w.rowIs b t n (fillTo g n)) : w.rowIs b t n (fun i => .int .u8 (g i).toNat) :=
  h.congr fun i hi => by simp [fillTo, hi]

def within_to (p q : ByteArray) (k : Nat) : Prop := ∀ i, i < k → ¬ (one p i = true ∧ one q i = false)
theorem within_to_step {p q : ByteArray} {k : Nat} (h : within_to p q k) (h' : ¬ (one p k = true ∧ one q k = false)) : within_to p q (k + 1) := by
  intro i hi
  by_cases e : i = k
  · subst e; exact h'
  · exact h i (by omega)
set_option maxHeartbeats 1000000 in
theorem implWithin (p q : ByteArray) (w : World) (hs : p.size ≤ 1048576) (hq : q.size = p.size) (hb : ∀ k (hk : k < q.size), q[k].toNat = 48 ∨ q[k].toNat = 49) :
    Calls Try.prog 39 #[.string p, .string q] w fun e w' => e = .returned (.bool (withinB p q)) ∧ w = w' := by
  have HQ := Lib.hid hq; clear hq
  have HB := Lib.hid hb; clear hb
  go_enter Try.func39, Try.ntmps39
  go_wp2
  go_loop [8] (fun i => ∃ k : Nat, k ≤ p.size ∧ i = .int .i64 k ∧ within_to p q k) (fun i => p.size - (intOf i).toNat)
  case atStart => exact ⟨0, Nat.zero_le _, rfl, fun i hi => absurd hi (by omega)⟩
  case round =>
    obtain ⟨k, hk, rfl, hg⟩ := hrel
    by_cases hlt : k < p.size
    · have hltq : k < q.size := by rw [HQ.out]; exact hlt
      by_cases hp : p[k].toNat = 49
      · have g1 : ((p[k].toNat : Int) == 49) = true := by simp; omega
        by_cases hq : q[k].toNat = 48
        · have g2 : ((q[k].toNat : Int) == 48) = true := by simp; omega
          have HW := Lib.hid (within_no hlt (one_true hlt hp) (one_false hltq (by omega)))
          clear hp hq
          go_wp2
          go_ret
          exact ⟨by rw [HW.out]; rfl, rfl⟩
        · have g2 : ((q[k].toNat : Int) == 48) = false := by simp; omega
          have HG := within_to_step hg (by rw [one_true hltq (by have := HB.out k hltq; omega)]; simp)
          clear hp hq
          go_wp2
          go_round
          case rel => exact ⟨k + 1, by omega, by go_num, HG⟩
          case measure => simp [intOf]; omega
      · have g1 : ((p[k].toNat : Int) == 49) = false := by simp; omega
        have HG := within_to_step hg (by rw [one_false hlt hp]; simp)
        clear hp
        go_wp2
        go_round
        case rel => exact ⟨k + 1, by omega, by go_num, HG⟩
        case measure => simp [intOf]; omega
    · obtain rfl : k = p.size := by omega
      have HW := Lib.hid (within_yes hg)
      go_wp2
      go_ret
      exact ⟨by rw [HW.out]; rfl, rfl⟩
end Go.Proofs.Ytnamdobckkhceaa.Bi
