/- Contracts: rows of texts: eqStringS, markText, markStringS, heldStringS. -/
import Derived.Test.YtaimlfhbcgocnaaHeads
import Derived.Laws.BytesArg
import Derived.Deep.OwnRows
import Derived.Lib.QuietBelow
namespace Go.Proofs.Ytaimlfhbcgocnaa.Sr
open Go.RowKit Go.Deep Go.Sort Go.Proofs.Ytaimlfhbcgocnaa.Pl Go.Proofs.Ytaimlfhbcgocnaa.Bi Go.Proofs.Ytaimlfhbcgocnaa.Fi Go.Proofs.Ytaimlfhbcgocnaa.Ed Go.Proofs.Ytaimlfhbcgocnaa.Ps Go.Proofs.Ytaimlfhbcgocnaa.Sw Go.Proofs.Ytaimlfhbcgocnaa.Hd Go.Proofs.Ytaimlfhbcgocnaa.Pp Go.Proofs.Ytaimlfhbcgocnaa.Ea Go.Proofs.Ytaimlfhbcgocnaa.Sz Go.Proofs.Ytaimlfhbcgocnaa.Hs
set_option linter.unusedVariables false

set_option maxHeartbeats 1000000 in
theorem eqStrs {b1 b2 : Nat} {w : World} {g1 g2 n c1 c2 : Nat} {xs : List ByteArray} (h1 : strs b1 w (.slice (some ⟨g1, 0, none⟩) n c1) xs) (h2 : strs b2 w (.slice (some ⟨g2, 0, none⟩) n c2) xs) (hn : xs.length = n) (hs : n ≤ 1000) :
    Calls Try.prog 15 #[.slice (some ⟨g1, 0, none⟩) n c1, .slice (some ⟨g2, 0, none⟩) n c2] w fun e w' => e = .returned (.bool true) ∧ Below w.heap.size w w' := by
  have H1 := Lib.hid h1
  have H2 := Lib.hid h2
  have l1 := (h1.1.lt g1 rfl).2
  have l2 := (h2.1.lt g2 rfl).2
  clear h1 h2
  go_enter Try.func15, Try.ntmps15
  go_wp2_with fail
  go_loopw [5] (fun i wr => ∃ j : Nat, j ≤ n ∧ i = .int .i64 j ∧ Below w.heap.size w wr) (fun i _ => n - (intOf i).toNat)
  case atStart => exact ⟨0, Nat.zero_le _, rfl, Below.refl _ _⟩
  case round =>
    obtain ⟨j, hj, rfl, hb⟩ := hrel
    by_cases hlt : j < n
    · obtain ⟨x, hx⟩ : ∃ x, xs[j]? = some x := ⟨_, List.getElem?_eq_getElem (by omega)⟩
      have e1 : wr.cell? ⟨g1, j, none⟩ = some (.string x) := by rw [hb.cell l1]; exact strs_cell H1.out hx
      have e2 : wr.cell? ⟨g2, j, none⟩ = some (.string x) := by rw [hb.cell l2]; exact strs_cell H2.out hx
      clear hx
      go_wp2_with fail
      go_quiet (fail)
      go_wp2_with fail
      go_roundw
      case rel => exact ⟨j + 1, by omega, by go_num, below_drewN hb _⟩
      case measure => simp [intOf]; omega
    · obtain rfl : j = n := by omega
      go_wp2_with fail
      go_ret
      exact ⟨rfl, hb⟩
/-- The digits of a number. -/
def dig10 (k : Nat) : List UInt8 := if h : k = 0 then [] else dig10 (k / 10) ++ [UInt8.ofNat (48 + k % 10)]
termination_by k
decreasing_by omega
theorem dig10_zero : dig10 0 = [] := by rw [dig10]; rfl
theorem dig10_step {k : Nat} (h : 0 < k) : dig10 k = dig10 (k / 10) ++ [UInt8.ofNat (48 + k % 10)] := by
  rw [dig10, dif_neg (by omega)]
theorem dig10_len (n : Nat) : ∀ k, k ≤ n → (dig10 k).length ≤ k := by
  induction n with
  | zero => intro k hk; obtain rfl : k = 0 := by omega
            rw [dig10_zero]; simp
  | succ n ih =>
    intro k hk
    by_cases h : k = 0
    · subst h; rw [dig10_zero]; simp
    · rw [dig10_step (by omega), List.length_append]
      have := ih (k / 10) (by omega)
      simp only [List.length_cons, List.length_nil]
      omega
/-- A mark. -/
def mt (k : Nat) : ByteArray := bs (109 :: dig10 k)
theorem conv1 (W0 : World) (a : Int) (n c : Nat) (hn : n = W0.heap.size) :
    (convert 22 9 (.slice (some ⟨n, 0, none⟩) 1 c)).run Try.prog (W0.alloc (.cells #[.int .u8 a] 5)) = .ok (.string (strOfNums [a])) (W0.alloc (.cells #[.int .u8 a] 5)) := by
  subst hn
  refine run_convert_bytes_arg _ 22 5 Try.underlying22 Try.underlying5 W0.heap.size 0 1 c [a] rfl ?_ 9 Try.underlying9
  intro i hi
  match i, hi with
  | 0, _ => simp [World.cell?_alloc_at]
theorem str_one (d : Nat) (h : d ≤ 9) : strOfNums [48 + (d : Int)] = bs [UInt8.ofNat (48 + d)] := by
  match d, h with
  | 0, _ => decide
  | 1, _ => decide
  | 2, _ => decide
  | 3, _ => decide
  | 4, _ => decide
  | 5, _ => decide
  | 6, _ => decide
  | 7, _ => decide
  | 8, _ => decide
  | 9, _ => decide
set_option maxHeartbeats 1000000 in
theorem markText (k : Nat) (w : World) (h0 : 0 < k) (hk : k ≤ 5000) :
    Calls Try.prog 28 #[.int .i64 (k : Int)] w fun e w' => e = .returned (.string (mt k)) ∧ Below w.heap.size w w' := by
  have hcv := conv1
  go_enter Try.func28, Try.ntmps28
  go_wp2_with fail
  go_loopw [0, 3] (fun kk out wr => ∃ (j : Nat) (l : List UInt8), j ≤ 5000 ∧ kk = .int .i64 j ∧ out = .string (bs l) ∧ dig10 j ++ l = dig10 k ∧ Below w.heap.size w wr) (fun kk _ _ => (intOf kk).toNat)
  case atStart => exact ⟨k, [], hk, rfl, rfl, by simp, Below.refl _ _⟩
  case round =>
    obtain ⟨j, l, hj, rfl, rfl, hd, hb⟩ := hrel
    have hl : (bs l).size ≤ 5000 := by
      rw [bs_size]
      have h1 := congrArg List.length hd
      rw [List.length_append] at h1
      have h2 := dig10_len k k (Nat.le_refl _)
      omega
    by_cases hz : j = 0
    · subst hz
      have HD := Lib.hid (show (⟨#[109]⟩ : ByteArray) ++ bs l = mt k by rw [dig10_zero, List.nil_append] at hd; rw [mt, ← hd]; apply ByteArray.ext; simp [bs])
      clear hd
      go_wp2_with fail
      go_ret
      exact ⟨by rw [← HD.out]; rfl, hb⟩
    · have hp : (0 : Int) < (j : Int) := by omega
      have hst := dig10_step (k := j) (by omega)
      have HST := Lib.hid hst
      have hso := str_one (j % 10) (by omega)
      rw [show ((j % 10 : Nat) : Int) = (j : Int) % 10 by omega] at hso
      have hz1 : (strOfNums [48 + (j : Int) % 10]).size = 1 := by rw [hso]; rfl
      have HSO := Lib.hid hso
      have hjj : (j : Int) / 10 = ((j / 10 : Nat) : Int) := by omega
      have HJ := Lib.hid hjj
      clear hst hso hjj
      go_wp2_with fail
      go_roundw
      case rel => exact ⟨j / 10, [UInt8.ofNat (48 + j % 10)] ++ l, by omega, by rw [HJ.out], by rw [HSO.out, bs_app], by rw [← hd, HST.out]; simp, hb.alloc hb.size _⟩
      case measure => simp [intOf]; omega
theorem strs_row {b : Nat} {w : World} {g n c : Nat} {xs : List ByteArray} (h : strs b w (.slice (some ⟨g, 0, none⟩) n c) xs) : ∃ f, w.rowIs g 9 c f ∧ xs.length = n ∧ n ≤ c ∧ ∀ i x, xs[i]? = some x → f i = .string x := by
  rcases h.1.2 with ⟨e, _⟩ | ⟨g', cap, cur, e, hg, hh, hc, hm, hs, htk⟩
  · cases e
  · cases e
    refine ⟨fun i => cur.getD i undef, ⟨cur, hh, by simpa using hs, fun i hi => ?_⟩, rfl, hc, fun i x hx => ?_⟩
    · have : i < cur.size := by omega
      simp [this]
    · have h1 : (xs.map Value.string)[i]? = some (.string x) := by rw [List.getElem?_map, hx]; rfl
      rw [← htk, List.getElem?_take] at h1
      split at h1
      · rw [Array.getElem?_toList] at h1
        simp [Array.getD_eq_getD_getElem?, h1]
      · cases h1
theorem grown_trans {a b c : World} {g : Nat} (h : a.grownBy b (some g)) (k : b.grownBy c (some g)) : a.grownBy c (some g) :=
  ⟨k.os.trans h.os, k.tape.trans h.tape, k.output.trans h.output, Nat.le_trans h.size k.size, fun i hi hn => (k.block i (Nat.lt_of_lt_of_le hi h.size) hn).trans (h.block i hi hn)⟩
theorem grown_set (w : World) (g i : Nat) (v : Value) : w.grownBy (w.setCell ⟨g, i, none⟩ v) (some g) :=
  ⟨rfl, rfl, rfl, by rw [size_set]; exact Nat.le_refl _, fun k hk hn => by rw [setCell_heap, if_neg (fun e => hn (by rw [e]))]⟩
theorem grown_below {w w' : World} (h : Below w.heap.size w w') (row : Option Nat) : w.grownBy w' row := ⟨h.os, h.tape, h.output, h.size, fun k hk _ => h.block k hk⟩
set_option maxHeartbeats 1000000 in
theorem markStrs (g n c : Nat) (f : Nat → Value) (k : Nat) (w : World) (hr : w.rowIs g 9 c f) (hnc : n ≤ c) (h0 : 0 < k) (hk : k + n ≤ 5000) :
    Calls Try.prog 16 #[.slice (some ⟨g, 0, none⟩) n c, .int .i64 (k : Int)] w fun e w' => e = .returned (.int .i64 ((k + n : Nat) : Int)) ∧ w'.rowIs g 9 c (fun i => if i < n then .string (mt (k + i)) else f i) ∧ w.grownBy w' (some g) := by
  have HR := Lib.hid hr
  clear hr
  go_enter Try.func16, Try.ntmps16
  go_wp2_with fail
  go_loopw [1, 5] (fun kk i wr => ∃ j : Nat, j ≤ n ∧ i = .int .i64 j ∧ kk = .int .i64 ((k + j : Nat) : Int) ∧ Hid (wr.rowIs g 9 c (fun i => if i < j then .string (mt (k + i)) else f i)) ∧ Hid (w.grownBy wr (some g))) (fun _ i _ => n - (intOf i).toNat)
  case atStart => exact ⟨0, Nat.zero_le _, rfl, rfl, Lib.hid (HR.out.congr fun i _ => by simp), Lib.hid (World.grownBy.refl _ _)⟩
  case round =>
    obtain ⟨j, hj, rfl, rfl, hrow, hg⟩ := hrel
    by_cases hlt : j < n
    · have HM := Lib.hid (markText (k + j) wr (by omega) (by omega))
      have HG1 := Lib.hid hrow.out.lt
      go_wp2_with fail
      refine (HM.out).mono ?_
      rintro e w1 ⟨rfl, hb1⟩
      have hrow1 := hrow.out.of_block (w' := w1) (hb1.block g HG1.out)
      have hcell := hrow1.cell (i := j) (by omega)
      have hfz := hrow1.frozen j
      have HN := Lib.hid (((hrow1.set j (.string (mt (k + j)))).congr (g := fun i => if i < j + 1 then .string (mt (k + i)) else f i) fun i _ => by
        by_cases e : i = j
        · subst e; simp
        · simp only [if_neg e]
          by_cases h1 : i < j
          · rw [if_pos h1, if_pos (by omega)]
          · rw [if_neg h1, if_neg (by omega)]))
      have HGG := Lib.hid (grown_trans (grown_trans hg.out (grown_below hb1 _)) (grown_set w1 g j (.string (mt (k + j)))))
      simp only [Nat.lt_irrefl, if_false] at hcell
      clear hrow1
      go_wp2_with fail
      go_roundw
      case rel => exact ⟨j + 1, by omega, by go_num, by go_num, HN, HGG⟩
      case measure => simp [intOf]; omega
    · obtain rfl : j = n := by omega
      go_wp2_with fail
      go_ret
      exact ⟨rfl, hrow.out, hg.out⟩
set_option maxHeartbeats 1000000 in
theorem heldStrs (g n c : Nat) (f : Nat → Value) (k : Nat) (w : World) (hr : w.rowIs g 9 c f) (hnc : n ≤ c) (hf : ∀ i, i < n → f i = .string (mt (k + i))) (h0 : 0 < k) (hk : k + n ≤ 5000) :
    Calls Try.prog 17 #[.slice (some ⟨g, 0, none⟩) n c, .int .i64 (k : Int)] w fun e w' => e = .returned (.int .i64 ((k + n : Nat) : Int)) ∧ Below w.heap.size w w' := by
  have HR := Lib.hid hr
  have HF := Lib.hid hf
  have hlt0 := hr.lt
  clear hr hf
  go_enter Try.func17, Try.ntmps17
  go_wp2_with fail
  go_loopw [1, 5] (fun kk i wr => ∃ j : Nat, j ≤ n ∧ i = .int .i64 j ∧ kk = .int .i64 ((k + j : Nat) : Int) ∧ Below w.heap.size w wr) (fun _ i _ => n - (intOf i).toNat)
  case atStart => exact ⟨0, Nat.zero_le _, rfl, rfl, Below.refl _ _⟩
  case round =>
    obtain ⟨j, hj, rfl, rfl, hb⟩ := hrel
    by_cases hlt : j < n
    · have HM := Lib.hid (fun w => markText (k + j) w (by omega) (by omega))
      have hcell : wr.cell? ⟨g, j, none⟩ = some (.string (mt (k + j))) := by rw [hb.cell hlt0, HR.out.cell (by omega), HF.out j hlt]
      have c0 := fun d os => cell_regrown hcell d os
      obtain ⟨M, hM⟩ : ∃ M, mt (k + j) = M := ⟨_, rfl⟩
      rw [hM] at HM hcell c0
      clear hM
      go_wp2_with fail
      refine wp_region_quiet_below (by kernel_rfl) (by kernel_rfl) ?_
      repeat (go_big_quiet_step (first | (go_at_call 28; exact Calls.regrown_of (HM.out _))))
      refine wpQuiet_nil ?_
      intro _ hw'
      obtain ⟨⟨dq, osq⟩, hw''⟩ := hw'
      subst hw''
      go_wp2_with fail
      go_roundw
      case rel => exact ⟨j + 1, by omega, by go_num, by go_num, hb.trans ((below_regrown _ _ _).mono hb.size)⟩
      case measure => simp [intOf]; omega
    · obtain rfl : j = n := by omega
      go_wp2_with fail
      go_ret
      exact ⟨rfl, hb⟩
end Go.Proofs.Ytaimlfhbcgocnaa.Sr
