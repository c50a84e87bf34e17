/- Contract: strings.Replacer's table of bytes: build. -/
import Derived.Test.YtnhdnfanjefglaaRow
import Derived.Test.YtnhdnfanjefglaaEnds
import Derived.Deep.MidRow
import Derived.Lib.Hide
import Derived.Deep.QuietTactic
import Derived.BigQuiet
namespace Go.Proofs.Ytnhdnfanjefglaa.Bu
open Go.RowKit Go.Deep Go.Proofs.Ytnhdnfanjefglaa.Ro
set_option linter.unusedVariables false

/-- The letters, old and new in turn. -/
def L (i : Nat) : UInt8 := [120, 88, 121, 89, 122, 90, 88, 120, 89, 121, 90, 122].getD i 0
/-- A letter of the other state. -/
def mir (b : Nat) : Nat := if 120 ≤ b ∧ b ≤ 122 then b - 32 else if 88 ≤ b ∧ b ≤ 90 then b + 32 else b
/-- The table, behind so many entries (the last one first). -/
def tabTo : Nat → Nat → Nat
  | 0, j => j
  | n + 1, j => if j = (L (2 * (5 - n))).toNat then (L (2 * (5 - n) + 1)).toNat else tabTo n j
theorem tab_all : ∀ j, j < 256 → tabTo 6 j = mir j := by
  have h : ((List.range 256).all fun j => tabTo 6 j == mir j) = true := by kernel_rfl
  rw [List.all_eq_true] at h
  exact fun j hj => eq_of_beq (h j (by simpa using hj))
def row8 (f : Nat → Nat) : Nat → Value := fun j => .int .u8 (f j : Int)
theorem row_cells {b t n : Nat} : ∀ (vs : List Value) (o : Nat) (w : World) (f : Nat → Value), w.rowIs b t n f → (∀ j v, vs[j]? = some v → f (o + j) = v) → (w.setCells b o vs).rowIs b t n f
  | [], o, w, f, h, _ => h
  | v :: vs, o, w, f, h, hv => row_cells vs (o + 1) _ f ((h.set o v).congr fun i _ => by
      by_cases e : i = o
      · subst e; simp; exact (hv 0 v rfl).symm
      · simp [e]) (fun j u hu => by rw [show o + 1 + j = o + (j + 1) by omega]; exact hv (j + 1) u hu)
theorem below_cells {B b : Nat} {a : World} (hB : B ≤ b) : ∀ (vs : List Value) (o : Nat) (w : World), Below B a w → Below B a (w.setCells b o vs)
  | [], o, w, h => h
  | v :: vs, o, w, h => below_cells hB vs (o + 1) _ (h.setCell (p := ⟨b, o, none⟩) hB v)
theorem wp_world {P : Program} {c : Code} {Q : Exit → Act → World → Prop} {a : Act} {w : World} (R : World → Prop) (h : R w) (k : ∀ W, R W → c.wp P Q a W) : c.wp P Q a w := k w h
theorem zeros_eq : Try.zeroCells70 = Array.replicate 256 (.int .u8 0) := by kernel_rfl
theorem zeros_one : Try.zeroCells70.all (·.oneCell') = true := by kernel_rfl
theorem zeros_size : Try.zeroCells70.size = 256 := by rw [zeros_eq]; simp
theorem info70 : (Try.prog.info? 70).map (·.size) = some Try.zeroCells70.size := by rw [zeros_size]; kernel_rfl
theorem row_new (w : World) : (w.alloc (.cells Try.zeroCells70 70)).rowIs w.heap.size 70 256 (fun _ => .int .u8 0) := by
  refine ⟨_, blk_alloc_new _ _, zeros_size, fun i hi => ?_⟩
  rw [zeros_eq]; simp [hi]
theorem row_there {w : World} {b t n : Nat} {f : Nat → Value} (h : w.rowIs b t n f) : w.there b 0 n := fun j hj => by
  rw [Nat.zero_add]
  exact ⟨by rw [h.cell hj]; rfl, h.frozen j⟩
theorem row_laid (w : World) : ((w.alloc (.cells Try.zeroCells70 70)).setCells w.heap.size 0 Try.zeroCells70.toList).rowIs w.heap.size 70 256 (fun _ => .int .u8 0) ∧
    Below w.heap.size w ((w.alloc (.cells Try.zeroCells70 70)).setCells w.heap.size 0 Try.zeroCells70.toList) := by
  refine ⟨row_cells _ _ _ _ (row_new w) (fun j v hv => ?_), below_cells (Nat.le_refl _) _ _ _ ((Below.refl _ w).alloc (Nat.le_refl _) _)⟩
  rw [zeros_eq, Array.toList_replicate, List.getElem?_replicate] at hv
  split at hv
  · exact Option.some.inj hv
  · cases hv
theorem id_step {w : World} {b t k : Nat} (h : w.rowIs b t 256 (fun j => if j < k then .int .u8 (j : Int) else .int .u8 0)) : (w.setCell ⟨b, k, none⟩ (.int .u8 (k : Int))).rowIs b t 256 (fun j => if j < k + 1 then .int .u8 (j : Int) else .int .u8 0) :=
  (h.set k _).congr fun i _ => by
    by_cases e : i = k
    · subst e; simp
    · simp only [if_neg e]
      by_cases h1 : i < k
      · rw [if_pos h1, if_pos (by omega)]
      · rw [if_neg h1, if_neg (by omega)]
theorem tab_step {w : World} {b t n o x : Nat} (h : w.rowIs b t 256 (row8 (tabTo n))) (ho : (L (2 * (5 - n))).toNat = o) (hx : (L (2 * (5 - n) + 1)).toNat = x) : (w.setCell ⟨b, o, none⟩ (.int .u8 (x : Int))).rowIs b t 256 (row8 (tabTo (n + 1))) :=
  (h.set o _).congr fun i _ => by
    simp only [row8, tabTo, ho, hx]
    by_cases e : i = o
    · rw [if_pos e, if_pos e]
    · rw [if_neg e, if_neg e]
/-- The value of the table's kind: a pointer, as an interface value. -/
def Made (w : World) (e : Ending) (w' : World) : Prop := ∃ q, e = .returned (.iface 71 (.pointer (some ⟨q, 0, none⟩))) ∧ w.heap.size ≤ q ∧ w'.rowIs q 70 256 (row8 mir) ∧ Below w.heap.size w w'
set_option maxRecDepth 100000 in
set_option maxHeartbeats 8000000 in
theorem implBuild (B g c : Nat) (w : World) (h4 : w.cell? ⟨B, 4, none⟩ = some (.slice (some ⟨g, 0, none⟩) 12 c)) (hx : ∀ i, i < 12 → w.cell? ⟨g, i, none⟩ = some (.string ⟨#[L i]⟩)) :
    Calls Try.prog 22 #[.pointer (some ⟨B, 0, none⟩)] w (Made w) := by
  have HX := Lib.hid hx
  have lg := block_lt_of_cell (hx 0 (by omega))
  clear hx
  go_enter Try.func22, Try.ntmps22
  go_wp2_with fail
  go_loopw [4, 5] (fun b i wr => ∃ k : Nat, k ≤ 6 ∧ i = .int .i64 (2 * (k : Int)) ∧ b = .bool true ∧ w = wr) (fun _ i _ => 12 - (intOf i).toNat)
  case atStart => exact ⟨0, Nat.zero_le _, rfl, rfl, rfl⟩
  case round =>
    obtain ⟨k, hk, rfl, rfl, rfl⟩ := hrel
    by_cases hlt : k < 6
    · rcases (show k = 0 ∨ k = 1 ∨ k = 2 ∨ k = 3 ∨ k = 4 ∨ k = 5 by omega) with rfl | rfl | rfl | rfl | rfl | rfl
      · have x0 : w.cell? ⟨g, 0, none⟩ = some (.string ⟨#[120]⟩) := HX.out 0 (by omega)
        have x1 : w.cell? ⟨g, 1, none⟩ = some (.string ⟨#[88]⟩) := HX.out 1 (by omega)
        rw [show (2 : Int) * ((0 : Nat) : Int) = 0 by rfl]
        go_wp2_with fail
        go_roundw
        case rel => exact ⟨1, by omega, rfl, rfl, trivial⟩
        case measure => simp [intOf]
      · have x0 : w.cell? ⟨g, 2, none⟩ = some (.string ⟨#[121]⟩) := HX.out 2 (by omega)
        have x1 : w.cell? ⟨g, 3, none⟩ = some (.string ⟨#[89]⟩) := HX.out 3 (by omega)
        rw [show (2 : Int) * ((1 : Nat) : Int) = 2 by rfl]
        go_wp2_with fail
        go_roundw
        case rel => exact ⟨2, by omega, rfl, rfl, trivial⟩
        case measure => simp [intOf]
      · have x0 : w.cell? ⟨g, 4, none⟩ = some (.string ⟨#[122]⟩) := HX.out 4 (by omega)
        have x1 : w.cell? ⟨g, 5, none⟩ = some (.string ⟨#[90]⟩) := HX.out 5 (by omega)
        rw [show (2 : Int) * ((2 : Nat) : Int) = 4 by rfl]
        go_wp2_with fail
        go_roundw
        case rel => exact ⟨3, by omega, rfl, rfl, trivial⟩
        case measure => simp [intOf]
      · have x0 : w.cell? ⟨g, 6, none⟩ = some (.string ⟨#[88]⟩) := HX.out 6 (by omega)
        have x1 : w.cell? ⟨g, 7, none⟩ = some (.string ⟨#[120]⟩) := HX.out 7 (by omega)
        rw [show (2 : Int) * ((3 : Nat) : Int) = 6 by rfl]
        go_wp2_with fail
        go_roundw
        case rel => exact ⟨4, by omega, rfl, rfl, trivial⟩
        case measure => simp [intOf]
      · have x0 : w.cell? ⟨g, 8, none⟩ = some (.string ⟨#[89]⟩) := HX.out 8 (by omega)
        have x1 : w.cell? ⟨g, 9, none⟩ = some (.string ⟨#[121]⟩) := HX.out 9 (by omega)
        rw [show (2 : Int) * ((4 : Nat) : Int) = 8 by rfl]
        go_wp2_with fail
        go_roundw
        case rel => exact ⟨5, by omega, rfl, rfl, trivial⟩
        case measure => simp [intOf]
      · have x0 : w.cell? ⟨g, 10, none⟩ = some (.string ⟨#[90]⟩) := HX.out 10 (by omega)
        have x1 : w.cell? ⟨g, 11, none⟩ = some (.string ⟨#[122]⟩) := HX.out 11 (by omega)
        rw [show (2 : Int) * ((5 : Nat) : Int) = 10 by rfl]
        go_wp2_with fail
        go_roundw
        case rel => exact ⟨6, by omega, rfl, rfl, trivial⟩
        case measure => simp [intOf]
    · obtain rfl : k = 6 := by omega
      rw [show (2 : Int) * ((6 : Nat) : Int) = 12 by rfl]
      have hth := Lib.hid (show (w.alloc (.cells Try.zeroCells70 70)).there w.heap.size 0 Try.zeroCells70.size by rw [zeros_size]; exact row_there (row_new w))
      have hone := Lib.hid zeros_one
      have hin := Lib.hid info70
      go_wp2_with (refine wpList_store_mid rfl 70 (.tmp 6) (.tmp 60) rfl w.heap.size 0 Try.zeroCells70 rfl rfl hth.out hin.out hone.out ?_)
      refine wp_world (fun W => W.rowIs w.heap.size 70 256 (fun _ => .int .u8 0) ∧ Below w.heap.size w W) (row_laid w) ?_
      rintro W0 ⟨r0, r1⟩
      go_loopw [7, 61] (fun _ i W => ∃ k : Nat, k ≤ 256 ∧ i = .int .i64 (k : Int) ∧ W.rowIs w.heap.size 70 256 (fun j => if j < k then .int .u8 (j : Int) else .int .u8 0) ∧ Below w.heap.size w W) (fun _ i _ => 256 - (intOf i).toNat)
      case atStart => exact ⟨0, Nat.zero_le _, rfl, r0.congr fun i _ => by simp, r1⟩
      case round =>
        clear r0 r1
        obtain ⟨k, hk2, rfl, hrow, hb⟩ := hrel
        by_cases hlt2 : k < 256
        · have hcell := hrow.cell hlt2
          have hfz := hrow.frozen k
          have HR := Lib.hid (id_step hrow)
          have HB := Lib.hid (hb.setCell (p := ⟨w.heap.size, k, none⟩) (Nat.le_refl _) (.int .u8 (k : Int)))
          clear hrow hb
          go_wp2_with fail
          go_roundw
          case rel => exact ⟨k + 1, by omega, by go_num, HR.out, HB.out⟩
          case measure => simp [intOf]; omega
        · obtain rfl : k = 256 := by omega
          have HR := Lib.hid (hrow.congr (g := row8 (tabTo 0)) fun i hi => by simp [row8, tabTo, hi])
          have HB := Lib.hid hb
          clear hrow hb
          go_wp2_with fail
          go_loopw [8, 9, 10] (fun i _ _ W => ∃ k : Nat, k ≤ 6 ∧ i = .int .i64 (10 - 2 * (k : Int)) ∧ W.rowIs w.heap.size 70 256 (row8 (tabTo k)) ∧ Below w.heap.size w W) (fun i _ _ _ => ((intOf i) + 2).toNat)
          case atStart => exact ⟨0, Nat.zero_le _, rfl, HR.out, HB.out⟩
          case round =>
            clear HR HB
            obtain ⟨k, hk3, rfl, hrow, hb⟩ := hrel
            by_cases hlt3 : k < 6
            · rcases (show k = 0 ∨ k = 1 ∨ k = 2 ∨ k = 3 ∨ k = 4 ∨ k = 5 by omega) with rfl | rfl | rfl | rfl | rfl | rfl
              · have x0 := (hb.cell (p := ⟨g, 10, none⟩) lg).trans (HX.out 10 (by omega))
                have x1 := (hb.cell (p := ⟨g, 11, none⟩) lg).trans (HX.out 11 (by omega))
                have c0 := hrow.cell (show ((ByteArray.mk #[90])[0]'(Nat.zero_lt_one : 0 < 1)).toNat < 256 from of_decide_eq_true rfl)
                have hfz := hrow.frozen ((ByteArray.mk #[90])[0]'(Nat.zero_lt_one : 0 < 1)).toNat
                have hlt9 : ((((ByteArray.mk #[90])[0]'(Nat.zero_lt_one : 0 < 1)).toNat : Nat) : Int) < 256 := of_decide_eq_true rfl
                have HR := Lib.hid (tab_step (o := ((ByteArray.mk #[90])[0]'(Nat.zero_lt_one : 0 < 1)).toNat) (x := ((ByteArray.mk #[122])[0]'(Nat.zero_lt_one : 0 < 1)).toNat) hrow rfl rfl)
                have HB := Lib.hid (hb.setCell (p := ⟨w.heap.size, ((ByteArray.mk #[90])[0]'(Nat.zero_lt_one : 0 < 1)).toNat, none⟩) (Nat.le_refl _) (.int .u8 ((((ByteArray.mk #[122])[0]'(Nat.zero_lt_one : 0 < 1)).toNat : Nat) : Int)))
                rw [show L 10 = 90 by rfl] at x0
                rw [show L 11 = 122 by rfl] at x1
                rw [show (10 : Int) - 2 * ((0 : Nat) : Int) = 10 by rfl]
                clear hrow hb
                go_wp2_with fail
                go_roundw
                case rel => exact ⟨1, by omega, rfl, HR.out, HB.out⟩
                case measure => simp [intOf]
              · have x0 := (hb.cell (p := ⟨g, 8, none⟩) lg).trans (HX.out 8 (by omega))
                have x1 := (hb.cell (p := ⟨g, 9, none⟩) lg).trans (HX.out 9 (by omega))
                have c0 := hrow.cell (show ((ByteArray.mk #[89])[0]'(Nat.zero_lt_one : 0 < 1)).toNat < 256 from of_decide_eq_true rfl)
                have hfz := hrow.frozen ((ByteArray.mk #[89])[0]'(Nat.zero_lt_one : 0 < 1)).toNat
                have hlt9 : ((((ByteArray.mk #[89])[0]'(Nat.zero_lt_one : 0 < 1)).toNat : Nat) : Int) < 256 := of_decide_eq_true rfl
                have HR := Lib.hid (tab_step (o := ((ByteArray.mk #[89])[0]'(Nat.zero_lt_one : 0 < 1)).toNat) (x := ((ByteArray.mk #[121])[0]'(Nat.zero_lt_one : 0 < 1)).toNat) hrow rfl rfl)
                have HB := Lib.hid (hb.setCell (p := ⟨w.heap.size, ((ByteArray.mk #[89])[0]'(Nat.zero_lt_one : 0 < 1)).toNat, none⟩) (Nat.le_refl _) (.int .u8 ((((ByteArray.mk #[121])[0]'(Nat.zero_lt_one : 0 < 1)).toNat : Nat) : Int)))
                rw [show L 8 = 89 by rfl] at x0
                rw [show L 9 = 121 by rfl] at x1
                rw [show (10 : Int) - 2 * ((1 : Nat) : Int) = 8 by rfl]
                clear hrow hb
                go_wp2_with fail
                go_roundw
                case rel => exact ⟨2, by omega, rfl, HR.out, HB.out⟩
                case measure => simp [intOf]
              · have x0 := (hb.cell (p := ⟨g, 6, none⟩) lg).trans (HX.out 6 (by omega))
                have x1 := (hb.cell (p := ⟨g, 7, none⟩) lg).trans (HX.out 7 (by omega))
                have c0 := hrow.cell (show ((ByteArray.mk #[88])[0]'(Nat.zero_lt_one : 0 < 1)).toNat < 256 from of_decide_eq_true rfl)
                have hfz := hrow.frozen ((ByteArray.mk #[88])[0]'(Nat.zero_lt_one : 0 < 1)).toNat
                have hlt9 : ((((ByteArray.mk #[88])[0]'(Nat.zero_lt_one : 0 < 1)).toNat : Nat) : Int) < 256 := of_decide_eq_true rfl
                have HR := Lib.hid (tab_step (o := ((ByteArray.mk #[88])[0]'(Nat.zero_lt_one : 0 < 1)).toNat) (x := ((ByteArray.mk #[120])[0]'(Nat.zero_lt_one : 0 < 1)).toNat) hrow rfl rfl)
                have HB := Lib.hid (hb.setCell (p := ⟨w.heap.size, ((ByteArray.mk #[88])[0]'(Nat.zero_lt_one : 0 < 1)).toNat, none⟩) (Nat.le_refl _) (.int .u8 ((((ByteArray.mk #[120])[0]'(Nat.zero_lt_one : 0 < 1)).toNat : Nat) : Int)))
                rw [show L 6 = 88 by rfl] at x0
                rw [show L 7 = 120 by rfl] at x1
                rw [show (10 : Int) - 2 * ((2 : Nat) : Int) = 6 by rfl]
                clear hrow hb
                go_wp2_with fail
                go_roundw
                case rel => exact ⟨3, by omega, rfl, HR.out, HB.out⟩
                case measure => simp [intOf]
              · have x0 := (hb.cell (p := ⟨g, 4, none⟩) lg).trans (HX.out 4 (by omega))
                have x1 := (hb.cell (p := ⟨g, 5, none⟩) lg).trans (HX.out 5 (by omega))
                have c0 := hrow.cell (show ((ByteArray.mk #[122])[0]'(Nat.zero_lt_one : 0 < 1)).toNat < 256 from of_decide_eq_true rfl)
                have hfz := hrow.frozen ((ByteArray.mk #[122])[0]'(Nat.zero_lt_one : 0 < 1)).toNat
                have hlt9 : ((((ByteArray.mk #[122])[0]'(Nat.zero_lt_one : 0 < 1)).toNat : Nat) : Int) < 256 := of_decide_eq_true rfl
                have HR := Lib.hid (tab_step (o := ((ByteArray.mk #[122])[0]'(Nat.zero_lt_one : 0 < 1)).toNat) (x := ((ByteArray.mk #[90])[0]'(Nat.zero_lt_one : 0 < 1)).toNat) hrow rfl rfl)
                have HB := Lib.hid (hb.setCell (p := ⟨w.heap.size, ((ByteArray.mk #[122])[0]'(Nat.zero_lt_one : 0 < 1)).toNat, none⟩) (Nat.le_refl _) (.int .u8 ((((ByteArray.mk #[90])[0]'(Nat.zero_lt_one : 0 < 1)).toNat : Nat) : Int)))
                rw [show L 4 = 122 by rfl] at x0
                rw [show L 5 = 90 by rfl] at x1
                rw [show (10 : Int) - 2 * ((3 : Nat) : Int) = 4 by rfl]
                clear hrow hb
                go_wp2_with fail
                go_roundw
                case rel => exact ⟨4, by omega, rfl, HR.out, HB.out⟩
                case measure => simp [intOf]
              · have x0 := (hb.cell (p := ⟨g, 2, none⟩) lg).trans (HX.out 2 (by omega))
                have x1 := (hb.cell (p := ⟨g, 3, none⟩) lg).trans (HX.out 3 (by omega))
                have c0 := hrow.cell (show ((ByteArray.mk #[121])[0]'(Nat.zero_lt_one : 0 < 1)).toNat < 256 from of_decide_eq_true rfl)
                have hfz := hrow.frozen ((ByteArray.mk #[121])[0]'(Nat.zero_lt_one : 0 < 1)).toNat
                have hlt9 : ((((ByteArray.mk #[121])[0]'(Nat.zero_lt_one : 0 < 1)).toNat : Nat) : Int) < 256 := of_decide_eq_true rfl
                have HR := Lib.hid (tab_step (o := ((ByteArray.mk #[121])[0]'(Nat.zero_lt_one : 0 < 1)).toNat) (x := ((ByteArray.mk #[89])[0]'(Nat.zero_lt_one : 0 < 1)).toNat) hrow rfl rfl)
                have HB := Lib.hid (hb.setCell (p := ⟨w.heap.size, ((ByteArray.mk #[121])[0]'(Nat.zero_lt_one : 0 < 1)).toNat, none⟩) (Nat.le_refl _) (.int .u8 ((((ByteArray.mk #[89])[0]'(Nat.zero_lt_one : 0 < 1)).toNat : Nat) : Int)))
                rw [show L 2 = 121 by rfl] at x0
                rw [show L 3 = 89 by rfl] at x1
                rw [show (10 : Int) - 2 * ((4 : Nat) : Int) = 2 by rfl]
                clear hrow hb
                go_wp2_with fail
                go_roundw
                case rel => exact ⟨5, by omega, rfl, HR.out, HB.out⟩
                case measure => simp [intOf]
              · have x0 := (hb.cell (p := ⟨g, 0, none⟩) lg).trans (HX.out 0 (by omega))
                have x1 := (hb.cell (p := ⟨g, 1, none⟩) lg).trans (HX.out 1 (by omega))
                have c0 := hrow.cell (show ((ByteArray.mk #[120])[0]'(Nat.zero_lt_one : 0 < 1)).toNat < 256 from of_decide_eq_true rfl)
                have hfz := hrow.frozen ((ByteArray.mk #[120])[0]'(Nat.zero_lt_one : 0 < 1)).toNat
                have hlt9 : ((((ByteArray.mk #[120])[0]'(Nat.zero_lt_one : 0 < 1)).toNat : Nat) : Int) < 256 := of_decide_eq_true rfl
                have HR := Lib.hid (tab_step (o := ((ByteArray.mk #[120])[0]'(Nat.zero_lt_one : 0 < 1)).toNat) (x := ((ByteArray.mk #[88])[0]'(Nat.zero_lt_one : 0 < 1)).toNat) hrow rfl rfl)
                have HB := Lib.hid (hb.setCell (p := ⟨w.heap.size, ((ByteArray.mk #[120])[0]'(Nat.zero_lt_one : 0 < 1)).toNat, none⟩) (Nat.le_refl _) (.int .u8 ((((ByteArray.mk #[88])[0]'(Nat.zero_lt_one : 0 < 1)).toNat : Nat) : Int)))
                rw [show L 0 = 120 by rfl] at x0
                rw [show L 1 = 88 by rfl] at x1
                rw [show (10 : Int) - 2 * ((5 : Nat) : Int) = 0 by rfl]
                clear hrow hb
                go_wp2_with fail
                go_roundw
                case rel => exact ⟨6, by omega, rfl, HR.out, HB.out⟩
                case measure => simp [intOf]
            · obtain rfl : k = 6 := by omega
              rw [show (10 : Int) - 2 * ((6 : Nat) : Int) = -2 by rfl]
              have HR := Lib.hid (hrow.congr (g := row8 mir) fun i hi => by simp only [row8, tab_all i hi])
              have HB := Lib.hid hb
              clear hrow hb
              go_wp2_with fail
              go_ret
              exact ⟨_, rfl, Nat.le_refl _, HR.out, HB.out⟩
end Go.Proofs.Ytnhdnfanjefglaa.Bu
