/- Contracts: what two texts of bits have both, or one of them, or one has not; one text within another. -/
import Derived.Test.YtinnkkhpgcmbhaaBits
import Derived.Test.YtinnkkhpgcmbhaaRow
namespace Go.Proofs.Ytinnkkhpgcmbhaa.Bi
open Go.RowKit Go.Proofs.Ytinnkkhpgcmbhaa.Ro

theorem infoU8 : (Try.prog.info? 5).map (fun i => (i.zero, i.size, i.bytes)) = some (some (.int .u8 0), 1, 1) := by kernel_rfl
theorem convU8 {w : World} {b t n cap : Nat} {g : Nat → UInt8} (h : w.rowIs b t n (fun i => .int .u8 (g i).toNat)) :
    (convert 54 9 (.slice (some ⟨b, 0, none⟩) n cap)).run Try.prog w = .ok (.string (mk n g)) w :=
  run_string_of_row Try.underlying54 Try.underlying5 Try.underlying9 h
/-- What stands in the row behind k rounds. -/
def fillTo (g : Nat → UInt8) (k : Nat) (j : Nat) : Value := if j < k then .int .u8 (g j).toNat else .int .u8 0
theorem fill_zero (w : World) (g : Nat → UInt8) (n t : Nat) : (w.alloc (.cells (madeCells #[.int .u8 0] n) t)).rowIs w.heap.size t n (fillTo g 0) :=
  (World.rowIs_made w (.int .u8 0) n t).congr fun i _ => by simp [fillTo]
theorem fill_step {w : World} {b t n : Nat} {g : Nat → UInt8} {k : Nat} (h : w.rowIs b t n (fillTo g k)) {v : Value} (hv : v = .int .u8 (g k).toNat) : (w.setCell ⟨b, k, none⟩ v).rowIs b t n (fillTo g (k + 1)) :=
  (h.set k v).congr fun i _ => by
    subst hv
    unfold fillTo
    by_cases e : i = k
    · subst e; simp
    · simp only [if_neg e]
      by_cases h1 : i < k
      · rw [if_pos h1, if_pos (by omega)]
      · rw [if_neg h1, if_neg (by omega)]
theorem fill_all {w : World} {b t n : Nat} {g : Nat → UInt8} (h : w.rowIs b t n (fillTo g n)) : w.rowIs b t n (fun i => .int .u8 (g i).toNat) :=
  h.congr fun i hi => by simp [fillTo, hi]

set_option maxHeartbeats 1000000 in
theorem specAnd (p q : ByteArray) (w : World) (hs : p.size ≤ 1048576) (hq : q.size = p.size) :
    Calls Try.prog 39 #[.string p, .string q] w fun e w' => e = .returned (.string (mk p.size fun i => bt (one p i && one q i))) ∧ Below w.heap.size w w' := by
  have hmk := run_make_row' (P := Try.prog) 54 5 (.int .u8 0) 1 Try.underlying54 infoU8 rfl .i64 .i64 p.size (by omega) (by omega)
  have HQ := Lib.hid hq; clear hq
  go_enter Try.func39, Try.ntmps39
  go_wp2
  go_loopw [6] (fun i wr => ∃ k : Nat, k ≤ p.size ∧ i = .int .i64 k ∧ wr.rowIs w.heap.size 5 p.size (fillTo (fun i => bt (one p i && one q i)) k) ∧ Below w.heap.size w wr) (fun i _ => p.size - (intOf i).toNat)
  case atStart => exact ⟨0, Nat.zero_le _, rfl, fill_zero _ _ _ _, (Below.refl _ _).alloc (Nat.le_refl _) _⟩
  case round =>
    obtain ⟨k, hk, rfl, hrow, hb⟩ := hrel
    by_cases hlt : k < p.size
    · have hltq : k < q.size := by rw [HQ.out]; exact hlt
      have hcell := hrow.cell hlt
      have hfz := hrow.frozen k
      by_cases hp : p[k].toNat = 49
      · have g1 : ((p[k].toNat : Int) == 49) = true := by simp; omega
        by_cases hq : q[k].toNat = 49
        · have g2 : ((q[k].toNat : Int) == 49) = true := by simp; omega
          have HR := fill_step hrow (v := .int .u8 49) (by simp only [one_true hlt hp, one_true hltq hq]; rfl)
          have HB := hb.setCell (p := ⟨w.heap.size, k, none⟩) (Nat.le_refl _) (.int .u8 49)
          clear hp hq hrow hb
          go_wp2
          go_roundw
          case rel => exact ⟨k + 1, by omega, by go_num, HR, HB⟩
          case measure => simp [intOf]; omega
        · have g2 : ((q[k].toNat : Int) == 49) = false := by simp; omega
          have HR := fill_step hrow (v := .int .u8 48) (by simp only [one_true hlt hp, one_false hltq hq]; rfl)
          have HB := hb.setCell (p := ⟨w.heap.size, k, none⟩) (Nat.le_refl _) (.int .u8 48)
          clear hp hq hrow hb
          go_wp2
          go_roundw
          case rel => exact ⟨k + 1, by omega, by go_num, HR, HB⟩
          case measure => simp [intOf]; omega
      · have g1 : ((p[k].toNat : Int) == 49) = false := by simp; omega
        have HR := fill_step hrow (v := .int .u8 48) (by simp only [one_false hlt hp, Bool.false_and]; rfl)
        have HB := hb.setCell (p := ⟨w.heap.size, k, none⟩) (Nat.le_refl _) (.int .u8 48)
        clear hp hrow hb
        go_wp2
        go_roundw
        case rel => exact ⟨k + 1, by omega, by go_num, HR, HB⟩
        case measure => simp [intOf]; omega
    · obtain rfl : k = p.size := by omega
      have hcv := convU8 (cap := p.size) (fill_all hrow)
      go_wp2
      go_ret
      exact ⟨rfl, hb⟩
set_option maxHeartbeats 1000000 in
theorem specOr (p q : ByteArray) (w : World) (hs : p.size ≤ 1048576) (hq : q.size = p.size) :
    Calls Try.prog 45 #[.string p, .string q] w fun e w' => e = .returned (.string (mk p.size fun i => bt (one p i || one q i))) ∧ Below w.heap.size w w' := by
  have hmk := run_make_row' (P := Try.prog) 54 5 (.int .u8 0) 1 Try.underlying54 infoU8 rfl .i64 .i64 p.size (by omega) (by omega)
  have HQ := Lib.hid hq; clear hq
  go_enter Try.func45, Try.ntmps45
  go_wp2
  go_loopw [6] (fun i wr => ∃ k : Nat, k ≤ p.size ∧ i = .int .i64 k ∧ wr.rowIs w.heap.size 5 p.size (fillTo (fun i => bt (one p i || one q i)) k) ∧ Below w.heap.size w wr) (fun i _ => p.size - (intOf i).toNat)
  case atStart => exact ⟨0, Nat.zero_le _, rfl, fill_zero _ _ _ _, (Below.refl _ _).alloc (Nat.le_refl _) _⟩
  case round =>
    obtain ⟨k, hk, rfl, hrow, hb⟩ := hrel
    by_cases hlt : k < p.size
    · have hltq : k < q.size := by rw [HQ.out]; exact hlt
      have hcell := hrow.cell hlt
      have hfz := hrow.frozen k
      by_cases hp : p[k].toNat = 49
      · have g1 : ((p[k].toNat : Int) == 49) = true := by simp; omega
        have HR := fill_step hrow (v := .int .u8 49) (by simp only [one_true hlt hp, Bool.true_or]; rfl)
        have HB := hb.setCell (p := ⟨w.heap.size, k, none⟩) (Nat.le_refl _) (.int .u8 49)
        clear hp hrow hb
        go_wp2
        go_roundw
        case rel => exact ⟨k + 1, by omega, by go_num, HR, HB⟩
        case measure => simp [intOf]; omega
      · have g1 : ((p[k].toNat : Int) == 49) = false := by simp; omega
        by_cases hq : q[k].toNat = 49
        · have g2 : ((q[k].toNat : Int) == 49) = true := by simp; omega
          have HR := fill_step hrow (v := .int .u8 49) (by simp only [one_false hlt hp, one_true hltq hq]; rfl)
          have HB := hb.setCell (p := ⟨w.heap.size, k, none⟩) (Nat.le_refl _) (.int .u8 49)
          clear hp hq hrow hb
          go_wp2
          go_roundw
          case rel => exact ⟨k + 1, by omega, by go_num, HR, HB⟩
          case measure => simp [intOf]; omega
        · have g2 : ((q[k].toNat : Int) == 49) = false := by simp; omega
          have HR := fill_step hrow (v := .int .u8 48) (by simp only [one_false hlt hp, one_false hltq hq]; rfl)
          have HB := hb.setCell (p := ⟨w.heap.size, k, none⟩) (Nat.le_refl _) (.int .u8 48)
          clear hp hq hrow hb
          go_wp2
          go_roundw
          case rel => exact ⟨k + 1, by omega, by go_num, HR, HB⟩
          case measure => simp [intOf]; omega
    · obtain rfl : k = p.size := by omega
      have hcv := convU8 (cap := p.size) (fill_all hrow)
      go_wp2
      go_ret
      exact ⟨rfl, hb⟩
set_option maxHeartbeats 1000000 in
theorem specNot (p : ByteArray) (w : World) (hs : p.size ≤ 1048576) (hb : ∀ k (hk : k < p.size), p[k].toNat = 48 ∨ p[k].toNat = 49) :
    Calls Try.prog 43 #[.string p] w fun e w' => e = .returned (.string (mk p.size fun i => bt (!one p i))) ∧ Below w.heap.size w w' := by
  have hmk := run_make_row' (P := Try.prog) 54 5 (.int .u8 0) 1 Try.underlying54 infoU8 rfl .i64 .i64 p.size (by omega) (by omega)
  have HC := Lib.hid hb; clear hb
  go_enter Try.func43, Try.ntmps43
  go_wp2
  go_loopw [4] (fun i wr => ∃ k : Nat, k ≤ p.size ∧ i = .int .i64 k ∧ wr.rowIs w.heap.size 5 p.size (fillTo (fun i => bt (!one p i)) k) ∧ Below w.heap.size w wr) (fun i _ => p.size - (intOf i).toNat)
  case atStart => exact ⟨0, Nat.zero_le _, rfl, fill_zero _ _ _ _, (Below.refl _ _).alloc (Nat.le_refl _) _⟩
  case round =>
    obtain ⟨k, hk, rfl, hrow, hb⟩ := hrel
    by_cases hlt : k < p.size
    · have hcell := hrow.cell hlt
      have hfz := hrow.frozen k
      by_cases hp : p[k].toNat = 48
      · have g1 : ((p[k].toNat : Int) == 48) = true := by simp; omega
        have HR := fill_step hrow (v := .int .u8 49) (by simp only [one_false hlt (show ¬ p[k].toNat = 49 by omega)]; rfl)
        have HB := hb.setCell (p := ⟨w.heap.size, k, none⟩) (Nat.le_refl _) (.int .u8 49)
        clear hp hrow hb
        go_wp2
        go_roundw
        case rel => exact ⟨k + 1, by omega, by go_num, HR, HB⟩
        case measure => simp [intOf]; omega
      · have g1 : ((p[k].toNat : Int) == 48) = false := by simp; omega
        have HR := fill_step hrow (v := .int .u8 48) (by simp only [one_true hlt (show p[k].toNat = 49 by have := HC.out k hlt; omega)]; rfl)
        have HB := hb.setCell (p := ⟨w.heap.size, k, none⟩) (Nat.le_refl _) (.int .u8 48)
        clear hp hrow hb
        go_wp2
        go_roundw
        case rel => exact ⟨k + 1, by omega, by go_num, HR, HB⟩
        case measure => simp [intOf]; omega
    · obtain rfl : k = p.size := by omega
      have hcv := convU8 (cap := p.size) (fill_all hrow)
      go_wp2
      go_ret
      exact ⟨rfl, hb⟩
end Go.Proofs.Ytinnkkhpgcmbhaa.Bi
