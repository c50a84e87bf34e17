/- Contracts: sets as bits of numbers (l4In, l4Mask, l4Text), relations as arrays of them (l6Read, l6Text). -/
import Derived.Test.YtaimlfhbcgocnaaDoorMake
import Derived.Test.YtaimlfhbcgocnaaDoorSets
import Derived.Deep.MidRow
import Derived.Laws.BitsLemmas
import Derived.Lib.Hide
namespace Go.Proofs.YtaimlfhbcgocnaaDoor.Mk
open Go.RowKit Go.Deep Go.Proofs.YtaimlfhbcgocnaaDoor.Bi Go.Proofs.YtaimlfhbcgocnaaDoor.Ro Go.Proofs.YtaimlfhbcgocnaaDoor.Se
set_option linter.unusedVariables false

/-! ### Plain -/
/-- The number with these bits among the first n. -/
def msk (f : Nat → Bool) : Nat → Nat
  | 0 => 0
  | n + 1 => msk f n ||| (if f n then 2 ^ n else 0)
theorem msk_lt (f : Nat → Bool) : ∀ n, msk f n < 2 ^ n
  | 0 => by simp [msk]
  | n + 1 => by
    have h := msk_lt f n
    have h1 : msk f n < 2 ^ (n + 1) := Nat.lt_of_lt_of_le h (Nat.pow_le_pow_right (by omega) (by omega))
    unfold msk
    refine Nat.or_lt_two_pow h1 ?_
    split
    · exact Nat.pow_lt_pow_right (by omega) (by omega)
    · exact Nat.two_pow_pos _
theorem msk_bit (f : Nat → Bool) : ∀ n i, (msk f n).testBit i = (decide (i < n) && f i)
  | 0, i => by simp [msk]
  | n + 1, i => by
    unfold msk
    rw [Nat.testBit_or, msk_bit f n i]
    by_cases h : f n = true
    · rw [if_pos h, Nat.testBit_two_pow]
      by_cases e : n = i
      · subst e; simp [h]
      · have : decide (i < n + 1) = decide (i < n) := by by_cases h2 : i < n <;> simp [h2] <;> omega
        rw [this]; simp [e]
    · rw [if_neg h, Nat.zero_testBit, Bool.or_false]
      by_cases e : n = i
      · subst e; simp [h]
      · have : decide (i < n + 1) = decide (i < n) := by by_cases h2 : i < n <;> simp [h2] <;> omega
        rw [this]
theorem msk_ext {a b : Nat} (h : ∀ i, a.testBit i = b.testBit i) : a = b := Nat.eq_of_testBit_eq h
theorem msk_congr {f g : Nat → Bool} {n : Nat} (h : ∀ i, i < n → f i = g i) : msk f n = msk g n := msk_ext fun i => by
  rw [msk_bit, msk_bit]
  by_cases hi : i < n
  · rw [h i hi]
  · simp [hi]
theorem msk_or (f g : Nat → Bool) (n : Nat) : msk f n ||| msk g n = msk (fun i => f i || g i) n := msk_ext fun i => by
  rw [Nat.testBit_or, msk_bit, msk_bit, msk_bit, Bool.and_or_distrib_left]
theorem msk_none (n : Nat) : msk (fun _ => false) n = 0 := msk_ext fun i => by rw [msk_bit]; simp
theorem or_i64 {a b : Nat} (ha : a < 134217728) (hb : b < 134217728) : bits .or .i64 (a : Int) (b : Int) = ((a ||| b : Nat) : Int) :=
  (bits_nat .i64 27 (by decide) (fun n h0 h1 => by rw [IntKind.wrap_i64]; omega) a b ha hb).2
theorem and_i64 {a b : Nat} (ha : a < 134217728) (hb : b < 134217728) : bits .and .i64 (a : Int) (b : Int) = ((a &&& b : Nat) : Int) :=
  (bits_nat .i64 27 (by decide) (fun n h0 h1 => by rw [IntKind.wrap_i64]; omega) a b ha hb).1
theorem or_lt {a b : Nat} (ha : a < 134217728) (hb : b < 134217728) : a ||| b < 134217728 := Nat.or_lt_two_pow (n := 27) ha hb
theorem pow_lt {k : Nat} (h : k < 27) : 2 ^ k < 134217728 := Nat.pow_lt_pow_right (a := 2) (m := k) (n := 27) (by omega) h
theorem pow_i64 {k : Nat} (h : k < 27) : wrap64 (2 ^ k) = ((2 ^ k : Nat) : Int) := by
  have h1 := pow_lt h
  have h2 : ((2 : Int) ^ k) = ((2 ^ k : Nat) : Int) := by simp
  rw [h2]
  generalize (2 : Nat) ^ k = p at h1 ⊢
  unfold wrap64
  omega
theorem in_bit {m i : Nat} (hm : m < 134217728) : (bits .and .i64 ((m : Int) / 2 ^ i) 1 == 1) = m.testBit i := by
  have h1 : ((m : Int) / 2 ^ i) = ((m / 2 ^ i : Nat) : Int) := by simp
  have h2 : m / 2 ^ i < 134217728 := Nat.lt_of_le_of_lt (Nat.div_le_self _ _) hm
  rw [h1, show (1 : Int) = ((1 : Nat) : Int) by rfl, and_i64 h2 (by omega)]
  rw [Nat.testBit, Nat.shiftRight_eq_div_pow, Bool.eq_iff_iff]
  simp only [beq_iff_eq, bne_iff_ne]
  rw [Nat.and_comm, Nat.one_and_eq_mod_two] 
  omega
/-- A set's number, one step on. -/
theorem msk_step {f : Nat → Bool} {n : Nat} (h : n < 27) : bits .or .i64 (msk f n : Int) (wrap64 (2 ^ n)) = ((msk f n ||| 2 ^ n : Nat) : Int) := by
  rw [pow_i64 h, or_i64 (Nat.lt_of_lt_of_le (msk_lt f n) (Nat.pow_le_pow_right (n := 2) (by omega) (by omega) : 2 ^ n ≤ 2 ^ 27)) (pow_lt h)]
theorem msk27_lt (f : Nat → Bool) {n : Nat} (h : n ≤ 27) : msk f n < 134217728 := Nat.lt_of_lt_of_le (msk_lt f n) (Nat.pow_le_pow_right (n := 2) (by omega) h : 2 ^ n ≤ 2 ^ 27)
theorem in_msk {f : Nat → Bool} {i : Nat} (h : i < 27) : (msk f 27).testBit i = f i := by rw [msk_bit]; simp [h]

/-! ### Sets -/
theorem specIn (m i : Nat) (w : World) (hm : m < 134217728) (hi : i < 27) :
    Calls Tryd.prog 30 #[.int .i64 (m : Int), .int .i64 (i : Int)] w fun e w' => e = .returned (.bool (m.testBit i)) ∧ w = w' := by
  have H := Lib.hid (in_bit (m := m) (i := i) hm)
  go_enter Tryd.func30, Tryd.ntmps30
  go_wp2
  go_ret
  exact ⟨by rw [← H.out]; rfl, rfl⟩
theorem specBit (b : Bool) (w : World) : Calls Tryd.prog 29 #[.bool b] w fun e w' => e = .returned (.int .u8 ((bt b).toNat : Int)) ∧ w = w' := by
  cases b <;> (
    go_enter Tryd.func29, Tryd.ntmps29
    go_wp2
    go_ret
    exact ⟨rfl, rfl⟩)
set_option maxHeartbeats 1000000 in
theorem specText (f : Nat → Bool) (w : World) :
    Calls Tryd.prog 24 #[.int .i64 (msk f 27 : Int)] w fun e w' => e = .returned (.string (mk 27 fun i => bt (f i))) ∧ Below w.heap.size w w' := by
  have hmk := run_make_row' (P := Tryd.prog) 52 5 (.int .u8 0) 1 Tryd.underlying52 infoU8 rfl .i64 .i64 27 (by omega) (by omega)
  rw [show ((27 : Nat) : Int) = 27 from rfl] at hmk
  have HM := Lib.hid (msk27_lt f (n := 27) (Nat.le_refl _))
  have HI := Lib.hid (fun i (h : i < 27) => in_msk (f := f) h)
  obtain ⟨m, hm⟩ : ∃ m, msk f 27 = m := ⟨_, rfl⟩
  rw [hm] at HM HI ⊢
  clear hm
  go_enter Tryd.func24, Tryd.ntmps24
  go_wp2
  go_loopw [4] (fun i wr => ∃ k : Nat, k ≤ 27 ∧ i = .int .i64 k ∧ wr.rowIs w.heap.size 5 27 (fillTo (fun i => bt (f i)) k) ∧ Below w.heap.size w wr) (fun i _ => 27 - (intOf i).toNat)
  case atStart => exact ⟨0, Nat.zero_le _, rfl, fill_zero _ _ _ _, (Below.refl _ _).alloc (Nat.le_refl _) _⟩
  case round =>
    obtain ⟨k, hk, rfl, hrow, hb⟩ := hrel
    by_cases hlt : k < 27
    · have hcell := hrow.cell hlt
      have hfz := hrow.frozen k
      have HR := Lib.hid (fill_step hrow (v := .int .u8 ((bt (f k)).toNat : Int)) rfl)
      have HB := Lib.hid (hb.setCell (p := ⟨w.heap.size, k, none⟩) (Nat.le_refl _) (.int .u8 ((bt (f k)).toNat : Int)))
      have HC := Lib.hid (fun w => specIn m k w HM.out hlt)
      rw [HI.out k hlt] at HC
      have HD := Lib.hid (fun w => specBit (f k) w)
      obtain ⟨x, hx⟩ : ∃ x, f k = x := ⟨_, rfl⟩
      rw [hx] at HC HD HR HB
      clear hrow hb hx
      go_wp2_with fail
      refine (HC.out _).mono ?_
      rintro e w1 ⟨rfl, rfl⟩
      go_wp2_with fail
      refine (HD.out _).mono ?_
      rintro e w1 ⟨rfl, rfl⟩
      go_wp2_with fail
      go_roundw
      case rel => exact ⟨k + 1, by omega, by go_num, HR.out, HB.out⟩
      case measure => simp [intOf]; omega
    · obtain rfl : k = 27 := by omega
      have hcv := convU8 (cap := 27) (fill_all hrow)
      go_wp2
      go_ret
      exact ⟨rfl, hb⟩

/-! ### Relations -/
def cellsOf (g : Nat → Nat) : List Value := (List.range 27).map fun i => Value.int .i64 (g i : Int)
def arr (g : Nat → Nat) : Value := .agg (cellsOf g).toArray
def arrR (R : Nat → Nat → Bool) : Value := arr fun i => msk (R i) 27
theorem cells_len (g : Nat → Nat) : (cellsOf g).length = 27 := by simp [cellsOf]
theorem cells_at (g : Nat → Nat) {i : Nat} (h : i < 27) : (cellsOf g)[i]? = some (.int .i64 (g i : Int)) := by simp [cellsOf, h]
theorem cells_one (g : Nat → Nat) : ∀ v ∈ cellsOf g, v.oneCell' = true := by
  intro v hv
  obtain ⟨i, _, rfl⟩ := List.mem_map.1 hv
  rfl
theorem row_range {w : World} {b t : Nat} {g : Nat → Nat} (h : w.rowIs b t 27 (fun i => .int .i64 (g i : Int))) : w.rangeAt b 0 (cellsOf g) := fun j v hv => by
  have hj : j < 27 := by have := (List.getElem?_eq_some_iff.1 hv).1; rwa [cells_len] at this
  rw [cells_at g hj] at hv
  rw [Nat.zero_add, h.cell hj]; exact hv
theorem row_there {w : World} {b t : Nat} {f : Nat → Value} (h : w.rowIs b t 27 f) : w.there b 0 27 := fun j hj => by
  rw [Nat.zero_add]
  exact ⟨by rw [h.cell hj]; rfl, h.frozen j⟩
theorem info39 : (Tryd.prog.info? 32).map (·.size) = some 27 := by kernel_rfl
/-- What the box of an array lays. -/
theorem row_box (w : World) (g : Nat → Nat) (t : TypeId) : (w.alloc (.cells (cellsOf g).toArray t)).rowIs w.heap.size t 27 (fun i => .int .i64 (g i : Int)) := by
  refine ⟨(cellsOf g).toArray, blk_alloc_new _ _, by simp [cells_len], fun i hi => ?_⟩
  simp [cells_at g hi]
theorem row_zero27 (w : World) (t : TypeId) : (w.alloc (.cells #[.int .i64 0, .int .i64 0, .int .i64 0, .int .i64 0, .int .i64 0, .int .i64 0, .int .i64 0, .int .i64 0, .int .i64 0, .int .i64 0, .int .i64 0, .int .i64 0, .int .i64 0, .int .i64 0, .int .i64 0, .int .i64 0, .int .i64 0, .int .i64 0, .int .i64 0, .int .i64 0, .int .i64 0, .int .i64 0, .int .i64 0, .int .i64 0, .int .i64 0, .int .i64 0, .int .i64 0] t)).rowIs w.heap.size t 27 (fun _ => .int .i64 0) := by
  refine ⟨_, blk_alloc_new _ _, rfl, fun i hi => ?_⟩
  match i, hi with
  | 0, _ => rfl
  | 1, _ => rfl
  | 2, _ => rfl
  | 3, _ => rfl
  | 4, _ => rfl
  | 5, _ => rfl
  | 6, _ => rfl
  | 7, _ => rfl
  | 8, _ => rfl
  | 9, _ => rfl
  | 10, _ => rfl
  | 11, _ => rfl
  | 12, _ => rfl
  | 13, _ => rfl
  | 14, _ => rfl
  | 15, _ => rfl
  | 16, _ => rfl
  | 17, _ => rfl
  | 18, _ => rfl
  | 19, _ => rfl
  | 20, _ => rfl
  | 21, _ => rfl
  | 22, _ => rfl
  | 23, _ => rfl
  | 24, _ => rfl
  | 25, _ => rfl
  | 26, _ => rfl
  | n + 27, h => exact absurd (show n + 27 < 27 from h) (by omega)
end Go.Proofs.YtaimlfhbcgocnaaDoor.Mk
