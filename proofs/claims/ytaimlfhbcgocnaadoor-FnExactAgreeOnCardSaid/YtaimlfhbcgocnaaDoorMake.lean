/- Contracts: a text of bits that a function value tells (makeBits, makeSet). -/
import Derived.Test.YtaimlfhbcgocnaaDoorBitOps
namespace Go.Proofs.YtaimlfhbcgocnaaDoor.Bi
open Go.RowKit Go.Proofs.YtaimlfhbcgocnaaDoor.Ro

/-- A function value that answers g, and only lays blocks. -/
def Tells (K : Nat) (cap : Array Value) (n : Nat) (g : Nat → Bool) (w : World) : Prop :=
  ∀ i, i < n → ∀ W, Below w.heap.size w W → Calls Tryd.prog K (#[.int .i64 (i : Int)] ++ cap) W fun e W' => e = .returned (.bool (g i)) ∧ Below W.heap.size W W'

/-- What a round does to the row, behind the call of the function value. -/
theorem row_behind {B : Nat} {wr w1 : World} {t n k : Nat} {g : Nat → UInt8} (h : wr.rowIs B t n (fillTo g k)) (hb : Below (wr.setCell ⟨B, k, none⟩ (.int .u8 48)).heap.size (wr.setCell ⟨B, k, none⟩ (.int .u8 48)) w1) (hk : k < n) :
    w1.rowIs B t n (fun j => if j = k then .int .u8 48 else fillTo g k j) ∧ w1.cell? ⟨B, k, none⟩ = some (.int .u8 48) ∧ w1.frozen? ⟨B, k, none⟩ = false := by
  have h0 := h.set k (.int .u8 48)
  have h1 := h0.of_block (w' := w1) (hb.block _ h0.lt)
  have hc := h1.cell hk
  simp only [if_true] at hc
  exact ⟨h1, hc, h1.frozen k⟩
theorem row_zero {B : Nat} {w1 : World} {t n k : Nat} {g : Nat → UInt8} (h : w1.rowIs B t n (fun j => if j = k then .int .u8 48 else fillTo g k j)) (hg : g k = 48) : w1.rowIs B t n (fillTo g (k + 1)) :=
  h.congr fun i _ => by
    unfold fillTo
    by_cases e : i = k
    · subst e; simp [hg]
    · simp only [if_neg e]
      by_cases h1 : i < k
      · rw [if_pos h1, if_pos (by omega)]
      · rw [if_neg h1, if_neg (by omega)]
theorem row_one {B : Nat} {w1 : World} {t n k : Nat} {g : Nat → UInt8} (h : w1.rowIs B t n (fun j => if j = k then .int .u8 48 else fillTo g k j)) (hg : g k = 49) : (w1.setCell ⟨B, k, none⟩ (.int .u8 49)).rowIs B t n (fillTo g (k + 1)) :=
  (h.set k (.int .u8 49)).congr fun i _ => by
    unfold fillTo
    by_cases e : i = k
    · subst e; simp [hg]
    · simp only [if_neg e]
      by_cases h1 : i < k
      · rw [if_pos h1, if_pos (by omega)]
      · rw [if_neg h1, if_neg (by omega)]

set_option maxHeartbeats 1000000 in
theorem makeBits (n : Nat) (K : Nat) (cap : Array Value) (g : Nat → Bool) (w : World) (hn : n ≤ 1048576) (hcall : ∀ (a : Array Value) (W : World), (callFunc K a).run Tryd.prog W = .ok (.enter K a) W) (hf : Tells K cap n g w) :
    Calls Tryd.prog 18 #[.int .i64 n, .func (.func K) #[] cap] w fun e w' => e = .returned (.string (mk n fun i => bt (g i))) ∧ Below w.heap.size w w' := by
  have hmk := run_make_row' (P := Tryd.prog) 52 5 (.int .u8 0) 1 Tryd.underlying52 infoU8 rfl .i64 .i64 n (by omega) (by omega)
  have HF := Lib.hid hf; clear hf
  go_enter Tryd.func18, Tryd.ntmps18
  go_wp2_with fail
  go_loopw [11] (fun i wr => ∃ k : Nat, k ≤ n ∧ i = .int .i64 k ∧ wr.rowIs w.heap.size 5 n (fillTo (fun i => bt (g i)) k) ∧ Below w.heap.size w wr) (fun i _ => n - (intOf i).toNat)
  case atStart => exact ⟨0, Nat.zero_le _, rfl, fill_zero _ _ _ _, (Below.refl _ _).alloc (Nat.le_refl _) _⟩
  case round =>
    obtain ⟨k, hk, rfl, hrow, hb⟩ := hrel
    by_cases hlt : k < n
    · have hcell := hrow.cell hlt
      have hfz := hrow.frozen k
      have HF' := Lib.hid (HF.out k hlt (wr.setCell ⟨w.heap.size, k, none⟩ (.int .u8 48)) (hb.setCell (p := ⟨w.heap.size, k, none⟩) (Nat.le_refl _) _))
      have hb0 := hb.setCell (p := ⟨w.heap.size, k, none⟩) (Nat.le_refl _) (.int .u8 48)
      have hle : w.heap.size ≤ (wr.setCell ⟨w.heap.size, k, none⟩ (.int .u8 48)).heap.size := hb0.size
      cases hg : g k with
      | true =>
        have HG := Lib.hid hg
        have HG9 := Lib.hid (show bt (g k) = 49 by rw [hg]; rfl)
        clear hg
        go_wp2_with (refine (HF'.out).mono ?_; rintro e w1 ⟨rfl, hb1⟩; rw [HG.out]; obtain ⟨hr1, hc1, hz1⟩ := row_behind hrow hb1 hlt)
        go_roundw
        case rel => exact ⟨k + 1, by omega, by go_num, row_one hr1 HG9.out, (hb0.trans (hb1.mono hle)).setCell (p := ⟨w.heap.size, k, none⟩) (Nat.le_refl _) _⟩
        case measure => simp [intOf]; omega
      | false =>
        have HG := Lib.hid hg
        have HG8 := Lib.hid (show bt (g k) = 48 by rw [hg]; rfl)
        clear hg
        go_wp2_with (refine (HF'.out).mono ?_; rintro e w1 ⟨rfl, hb1⟩; rw [HG.out]; obtain ⟨hr1, hc1, hz1⟩ := row_behind hrow hb1 hlt)
        go_roundw
        case rel => exact ⟨k + 1, by omega, by go_num, row_zero hr1 HG8.out, hb0.trans (hb1.mono hle)⟩
        case measure => simp [intOf]; omega
    · obtain rfl : k = n := by omega
      have hcv := convU8 (cap := k) (fill_all hrow)
      go_wp2_with fail
      go_ret
      exact ⟨rfl, hb⟩
end Go.Proofs.YtaimlfhbcgocnaaDoor.Bi
