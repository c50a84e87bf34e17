/- Contracts and laws: the states that are in a set with all values, or with some value, of a variable: AllVar, SomeVar. -/
import Derived.Test.YtdmfcbjjnjpniaaDoorMake
import Derived.Test.YtdmfcbjjnjpniaaDoorNum
import Derived.Test.YtdmfcbjjnjpniaaDoorVar
import Derived.Test.YtdmfcbjjnjpniaaDoorEnv
import Derived.Deep.QuietTactic
import Derived.BigQuiet
import Derived.Lib.QuietBelow
namespace Go.Proofs.YtdmfcbjjnjpniaaDoor.Qu
open Go.RowKit Go.Deep Go.Sort Go.Proofs.YtdmfcbjjnjpniaaDoor.Bi Go.Proofs.YtdmfcbjjnjpniaaDoor.Ro Go.Proofs.YtdmfcbjjnjpniaaDoor.Se Go.Proofs.YtdmfcbjjnjpniaaDoor.Va Go.Proofs.YtdmfcbjjnjpniaaDoor.St Go.Proofs.YtdmfcbjjnjpniaaDoor.En Go.Proofs.YtdmfcbjjnjpniaaDoor.Nu
set_option linter.unusedVariables false

theorem res_after {w W w1 w2 : World} {t : TypeId} {x y z : Int} (hW : Below (w.heap.size + 2) (box (box w t x y z) t 0 0 0) W) (h1 : Below W.heap.size W w1) (h2 : Below w1.heap.size w1 w2) :
    Below w.heap.size w w2 ∧ w.heap.size + 1 < w2.heap.size ∧
    (w2.cell? ⟨w.heap.size + 1, 0, none⟩ = some (.int .i64 0) ∧ w2.cell? ⟨w.heap.size + 1, 1, none⟩ = some (.int .i64 0) ∧ w2.cell? ⟨w.heap.size + 1, 2, none⟩ = some (.int .i64 0)) ∧
    (w2.frozen? ⟨w.heap.size + 1, 0, none⟩ = false ∧ w2.frozen? ⟨w.heap.size + 1, 1, none⟩ = false ∧ w2.frozen? ⟨w.heap.size + 1, 2, none⟩ = false) := by
  have s0 := hW.size
  simp at s0
  have s1 := h1.size
  have s2 := h2.size
  have h : Below (w.heap.size + 2) (box (box w t x y z) t 0 0 0) w2 := hW.trans ((h1.mono s0).trans (h2.mono (by omega)))
  refine ⟨?_, by omega, ⟨?_, ?_, ?_⟩, ⟨?_, ?_, ?_⟩⟩
  · exact Below.trans (Below.alloc (Below.alloc (Below.refl _ _) (by omega) _) (by simp) _) (h.mono (by omega))
  all_goals first
    | (rw [h.cell (by simp)]; simp [World.cell?_alloc_at])
    | (rw [h.frozen (by simp)]; simp [World.frozen?_alloc_at])
/-- The number of a state with another value of a variable. -/
def wvI (k : Nat) (i n : Int) : Int := if k = 0 then ix n (sy i) (sz i) else if k = 1 then ix (sx i) n (sz i) else ix (sx i) (sy i) n
theorem wv_range (k : Nat) {i n : Int} (h0 : 0 ≤ i) (h1 : i < 27) (n0 : 0 ≤ n) (n1 : n < 3) : 0 ≤ wvI k i n ∧ wvI k i n < 27 := by
  unfold wvI ix sx sy sz
  split
  · omega
  · split <;> omega
def wvN (k i n : Nat) : Nat := (wvI k i n).toNat
theorem wv_nat (k : Nat) {i n : Nat} (h1 : i < 27) (n1 : n < 3) : wvI k i n = (wvN k i n : Int) ∧ wvN k i n < 27 := by
  have := wv_range k (i := i) (n := n) (by omega) (by omega) (by omega) (by omega)
  unfold wvN
  omega
def sumTo (f : Nat → Bool) : Nat → Nat
  | 0 => 0
  | k + 1 => sumTo f k + if f k then 1 else 0
theorem sum_le (f : Nat → Bool) : ∀ k, sumTo f k ≤ k
  | 0 => Nat.le_refl _
  | k + 1 => by unfold sumTo; have := sum_le f k; split <;> omega
def quantB (all : Bool) (p : ByteArray) (k i : Nat) : Bool := (sumTo (fun n => one p (wvN k i n)) 3 == 3) || (!all && decide (0 < sumTo (fun n => one p (wvN k i n)) 3))
theorem quant_all (p : ByteArray) (k i : Nat) : quantB true p k i = (one p (wvN k i 0) && one p (wvN k i 1) && one p (wvN k i 2)) := by
  unfold quantB
  generalize hf : (fun n => one p (wvN k i n)) = f
  rw [show one p (wvN k i 0) = f 0 by rw [← hf], show one p (wvN k i 1) = f 1 by rw [← hf], show one p (wvN k i 2) = f 2 by rw [← hf]]
  simp only [sumTo]
  rcases Bool.eq_false_or_eq_true (f 0) with h0 | h0 <;> rcases Bool.eq_false_or_eq_true (f 1) with h1 | h1 <;> rcases Bool.eq_false_or_eq_true (f 2) with h2 | h2 <;> simp [h0, h1, h2]
theorem quant_some (p : ByteArray) (k i : Nat) : quantB false p k i = (one p (wvN k i 0) || one p (wvN k i 1) || one p (wvN k i 2)) := by
  unfold quantB
  generalize hf : (fun n => one p (wvN k i n)) = f
  rw [show one p (wvN k i 0) = f 0 by rw [← hf], show one p (wvN k i 1) = f 1 by rw [← hf], show one p (wvN k i 2) = f 2 by rw [← hf]]
  simp only [sumTo]
  rcases Bool.eq_false_or_eq_true (f 0) with h0 | h0 <;> rcases Bool.eq_false_or_eq_true (f 1) with h1 | h1 <;> rcases Bool.eq_false_or_eq_true (f 2) with h2 | h2 <;> simp [h0, h1, h2]
theorem specBit (b : Bool) (w : World) : Calls Tryd.prog 34 #[.bool b] w fun e w' => e = .returned (.int .u8 ((bt b).toNat : Int)) ∧ w = w' := by
  cases b <;> (
    go_enter Tryd.func34, Tryd.ntmps34
    go_wp2
    go_ret
    exact ⟨rfl, rfl⟩)
set_option maxHeartbeats 2000000 in
theorem specWith0 (x y z n : Int) (w : World) :
    Calls Tryd.prog 32 #[.agg #[.int .i64 x, .int .i64 y, .int .i64 z], .int .i64 0, .int .i64 n] w fun e w' => e = .returned (.agg #[.int .i64 n, .int .i64 y, .int .i64 z]) ∧ Below w.heap.size w w' := by
  go_enter Tryd.func32, Tryd.ntmps32
  go_wp2_with (first | (go_at_call 44; refine (specOne _ _ _ _).mono ?_; rintro e w' ⟨rfl, rfl⟩) | (go_at_call 43; refine (specSet0 _ _ _ _ _).mono ?_; rintro e w1 ⟨rfl, hb1⟩) | (go_at_call 42; refine (specState _ _ _ _ _ _ _).mono ?_; rintro e w2 ⟨rfl, hb2⟩; obtain ⟨hbw, hsz, hcs, hfs⟩ := res_after (w := w) (t := 42) (x := x) (y := y) (z := z) (by repeat (first | exact Below.refl _ _ | refine Below.alloc ?_ (by simp <;> omega) _)) hb1 hb2))
  refine bodyPost_ret (v := .agg #[.int .i64 n, .int .i64 y, .int .i64 z]) ?_ rfl ⟨rfl, ?_⟩
  · simp [results, Tryd.results32, go_sem, hcs]
  · exact ((hbw.setCell (show w.heap.size ≤ w.heap.size + 1 by omega) _).setCell (show w.heap.size ≤ w.heap.size + 1 by omega) _).setCell (show w.heap.size ≤ w.heap.size + 1 by omega) _
set_option maxHeartbeats 2000000 in
theorem specWith1 (x y z n : Int) (w : World) :
    Calls Tryd.prog 32 #[.agg #[.int .i64 x, .int .i64 y, .int .i64 z], .int .i64 1, .int .i64 n] w fun e w' => e = .returned (.agg #[.int .i64 x, .int .i64 n, .int .i64 z]) ∧ Below w.heap.size w w' := by
  go_enter Tryd.func32, Tryd.ntmps32
  go_wp2_with (first | (go_at_call 44; refine (specOne _ _ _ _).mono ?_; rintro e w' ⟨rfl, rfl⟩) | (go_at_call 43; refine (specSet1 _ _ _ _ _).mono ?_; rintro e w1 ⟨rfl, hb1⟩) | (go_at_call 42; refine (specState _ _ _ _ _ _ _).mono ?_; rintro e w2 ⟨rfl, hb2⟩; obtain ⟨hbw, hsz, hcs, hfs⟩ := res_after (w := w) (t := 42) (x := x) (y := y) (z := z) (by repeat (first | exact Below.refl _ _ | refine Below.alloc ?_ (by simp <;> omega) _)) hb1 hb2))
  refine bodyPost_ret (v := .agg #[.int .i64 x, .int .i64 n, .int .i64 z]) ?_ rfl ⟨rfl, ?_⟩
  · simp [results, Tryd.results32, go_sem, hcs]
  · exact ((hbw.setCell (show w.heap.size ≤ w.heap.size + 1 by omega) _).setCell (show w.heap.size ≤ w.heap.size + 1 by omega) _).setCell (show w.heap.size ≤ w.heap.size + 1 by omega) _
set_option maxHeartbeats 2000000 in
theorem specWith2 (x y z n : Int) (w : World) :
    Calls Tryd.prog 32 #[.agg #[.int .i64 x, .int .i64 y, .int .i64 z], .int .i64 2, .int .i64 n] w fun e w' => e = .returned (.agg #[.int .i64 x, .int .i64 y, .int .i64 n]) ∧ Below w.heap.size w w' := by
  go_enter Tryd.func32, Tryd.ntmps32
  go_wp2_with (first | (go_at_call 44; refine (specOne _ _ _ _).mono ?_; rintro e w' ⟨rfl, rfl⟩) | (go_at_call 43; refine (specSet2 _ _ _ _ _).mono ?_; rintro e w1 ⟨rfl, hb1⟩) | (go_at_call 42; refine (specState _ _ _ _ _ _ _).mono ?_; rintro e w2 ⟨rfl, hb2⟩; obtain ⟨hbw, hsz, hcs, hfs⟩ := res_after (w := w) (t := 42) (x := x) (y := y) (z := z) (by repeat (first | exact Below.refl _ _ | refine Below.alloc ?_ (by simp <;> omega) _)) hb1 hb2))
  refine bodyPost_ret (v := .agg #[.int .i64 x, .int .i64 y, .int .i64 n]) ?_ rfl ⟨rfl, ?_⟩
  · simp [results, Tryd.results32, go_sem, hcs]
  · exact ((hbw.setCell (show w.heap.size ≤ w.heap.size + 1 by omega) _).setCell (show w.heap.size ≤ w.heap.size + 1 by omega) _).setCell (show w.heap.size ≤ w.heap.size + 1 by omega) _
def strideAt (w : World) : Prop := w.cell? ⟨0, 0, none⟩ = some (.int .i64 1) ∧ w.cell? ⟨0, 1, none⟩ = some (.int .i64 3) ∧ w.cell? ⟨0, 2, none⟩ = some (.int .i64 9)
theorem stride_below {w w' : World} (h : strideAt w) (hb : Below w.heap.size w w') : strideAt w' := by
  have hl := block_lt_of_cell h.1
  exact ⟨(hb.cell (p := ⟨0, 0, none⟩) hl).trans h.1, (hb.cell (p := ⟨0, 1, none⟩) hl).trans h.2.1, (hb.cell (p := ⟨0, 2, none⟩) hl).trans h.2.2⟩
theorem implWith0 (i n : Int) (w : World) (h0 : 0 ≤ i) (h1 : i < 27) (n0 : 0 ≤ n) (n1 : n < 3) (hst : strideAt w) :
    Calls Tryd.prog 20 #[.int .i64 i, .int .i64 0, .int .i64 n] w fun e w' => e = .returned (.int .i64 (wvI 0 i n)) ∧ ∃ m, w' = w.drewN m := by
  obtain ⟨c0, c1, c2⟩ := hst
  have hr := wv_range 0 h0 h1 n0 n1
  have HV := Lib.hid (show wvI 0 i n = i + (n - i % 3) by simp [wvI, ix, sx, sy, sz]; omega)
  have h9 : 0 ≤ i % 3 ∧ i % 3 < 3 := by omega
  have h8 := HV.out
  rw [h8] at hr
  clear h8
  go_enter Tryd.func20, Tryd.ntmps20
  go_wp2_with fail
  go_quiet (fail)
  go_wp2_with fail
  go_ret
  exact ⟨by rw [HV.out]; rfl, _, rfl⟩
theorem implWith1 (i n : Int) (w : World) (h0 : 0 ≤ i) (h1 : i < 27) (n0 : 0 ≤ n) (n1 : n < 3) (hst : strideAt w) :
    Calls Tryd.prog 20 #[.int .i64 i, .int .i64 1, .int .i64 n] w fun e w' => e = .returned (.int .i64 (wvI 1 i n)) ∧ ∃ m, w' = w.drewN m := by
  obtain ⟨c0, c1, c2⟩ := hst
  have hr := wv_range 1 h0 h1 n0 n1
  have HV := Lib.hid (show wvI 1 i n = i + (n - i / 3 % 3) * 3 by simp [wvI, ix, sx, sy, sz]; omega)
  have h9 : 0 ≤ i / 3 % 3 ∧ i / 3 % 3 < 3 := by omega
  have h8 := HV.out
  rw [h8] at hr
  clear h8
  go_enter Tryd.func20, Tryd.ntmps20
  go_wp2_with fail
  go_quiet (fail)
  go_wp2_with fail
  go_ret
  exact ⟨by rw [HV.out]; rfl, _, rfl⟩
theorem implWith2 (i n : Int) (w : World) (h0 : 0 ≤ i) (h1 : i < 27) (n0 : 0 ≤ n) (n1 : n < 3) (hst : strideAt w) :
    Calls Tryd.prog 20 #[.int .i64 i, .int .i64 2, .int .i64 n] w fun e w' => e = .returned (.int .i64 (wvI 2 i n)) ∧ ∃ m, w' = w.drewN m := by
  obtain ⟨c0, c1, c2⟩ := hst
  have hr := wv_range 2 h0 h1 n0 n1
  have HV := Lib.hid (show wvI 2 i n = i + (n - i / 9 % 3) * 9 by simp [wvI, ix, sx, sy, sz]; omega)
  have h9 : 0 ≤ i / 9 % 3 ∧ i / 9 % 3 < 3 := by omega
  have h8 := HV.out
  rw [h8] at hr
  clear h8
  go_enter Tryd.func20, Tryd.ntmps20
  go_wp2_with fail
  go_quiet (fail)
  go_wp2_with fail
  go_ret
  exact ⟨by rw [HV.out]; rfl, _, rfl⟩
theorem st_ok (v : Nat) (i n : Nat) (h1 : i < 27) (n1 : n < 3) : stB (if v = 0 then (n : Int) else sx i) (if v = 1 then (n : Int) else sy i) (if v = 2 then (n : Int) else sz i) = true := by
  have := s_range (i := i) (by omega) (by omega)
  refine stB_true ?_
  refine ⟨?_, ?_, ?_, ?_, ?_, ?_⟩ <;> split <;> omega
set_option maxHeartbeats 1000000 in
set_option maxRecDepth 100000 in
theorem specQuant0 (all : Bool) (p : ByteArray) (w : World) (hp : bitsB p 27 = true) :
    Calls Tryd.prog 14 #[.string p, .int .i64 0, .bool all] w fun e w' => e = .returned (.string (mk 27 fun i => bt (quantB all p 0 i))) ∧ Below w.heap.size w w' := by
  have hmk := run_make_row' (P := Tryd.prog) 39 5 (.int .u8 0) 1 Tryd.underlying39 infoU8 rfl .i64 .i64 27 (by omega) (by omega)
  rw [show ((27 : Nat) : Int) = 27 from rfl] at hmk
  have hs := bits_size hp
  have HBIT := Lib.hid (fun j hj => bits_bit hp (k := j) hj)
  obtain ⟨g, hg⟩ : ∃ g, (fun i => bt (quantB all p 0 i)) = g := ⟨_, rfl⟩
  rw [hg]
  have HG := Lib.hid hg
  clear hp hg
  go_enter Tryd.func14, Tryd.ntmps14
  go_wp2
  go_loopw [8, 9, 10] (fun i n k wr => ∃ j : Nat, j ≤ 27 ∧ i = .int .i64 j ∧ wr.rowIs w.heap.size 5 27 (fillTo g j) ∧ Below w.heap.size w wr) (fun i _ _ _ => 27 - (intOf i).toNat)
  case atStart => exact ⟨0, Nat.zero_le _, rfl, fill_zero _ _ _ _, (Below.refl _ _).alloc (Nat.le_refl _) _⟩
  case round =>
    obtain ⟨i, hi, rfl, hrow, hb⟩ := hrel
    by_cases hlt : i < 27
    · have hd : decide ((i : Int) < 27) = true := by simp; omega
      have HAT := Lib.hid (fun w => specAt (i : Int) w (by omega) (by omega))
      go_wp2_with fail
      go_loopw [9, 10] (fun n k wr => ∃ j : Nat, j ≤ 3 ∧ k = .int .i64 j ∧ n = .int .i64 (sumTo (fun n => one p (wvN 0 i n)) j : Int) ∧ wr.rowIs w.heap.size 5 27 (fillTo g i) ∧ Below w.heap.size w wr) (fun _ k _ => 3 - (intOf k).toNat)
      case atStart => exact ⟨0, Nat.zero_le _, rfl, rfl, hrow, hb⟩
      case round =>
        clear hrow hb
        obtain ⟨n, hn, rfl, rfl, hrow, hb⟩ := hrel
        by_cases hln : n < 3
        · have hd3 : decide ((n : Int) < 3) = true := by simp; omega
          have hw := wv_nat 0 hlt hln
          have HI := Lib.hid (fun w => specIndex ((n : Int)) (sy i) (sz i) w (by simpa using st_ok 0 i n hlt hln))
          rw [show ix ((n : Int)) (sy i) (sz i) = (wvN 0 i n : Int) by rw [← hw.1]; rfl] at HI
          have hw1 : wvN 0 i n < p.size := by omega
          obtain ⟨b, hb8, hb1, hbs⟩ : ∃ b : Nat, (p[wvN 0 i n]'hw1).toNat = 48 + b ∧ b ≤ 1 ∧ sumTo (fun n => one p (wvN 0 i n)) (n + 1) = sumTo (fun n => one p (wvN 0 i n)) n + b := by
            rcases HBIT.out _ hw1 with h | h
            · exact ⟨0, by omega, by omega, by simp [sumTo, one_false hw1 (by omega)]⟩
            · exact ⟨1, by omega, by omega, by simp [sumTo, one_true hw1 h]⟩
          have hle := sum_le (fun n => one p (wvN 0 i n)) n
          obtain ⟨S, hS⟩ : ∃ S, sumTo (fun n => one p (wvN 0 i n)) n = S := ⟨_, rfl⟩
          rw [hS] at hbs hle ⊢
          have HBS := Lib.hid hbs
          obtain ⟨W, hW⟩ : ∃ W, wvN 0 i n = W := ⟨_, rfl⟩
          have HR := Lib.hid hrow
          have hw2 : W < p.size := by omega
          have hb9 : (p[W]'hw2).toNat = 48 + b := by simpa only [hW] using hb8
          rw [hW] at HI
          have HW := Lib.hid (fun w => specWith0 (sx i) (sy i) (sz i) (n : Int) w)
          have HB := Lib.hid hb
          clear hbs hrow hS hw hw1 hW hb8 hb
          go_wp2_with fail
          refine (HAT.out _).mono ?_
          rintro e w1 ⟨rfl, hb1⟩
          go_wp2_with fail
          refine (HW.out _).mono ?_
          rintro e w2 ⟨rfl, hb2⟩
          go_wp2_with fail
          refine (HI.out _).mono ?_
          rintro e w3 ⟨rfl, hb3⟩
          go_wp2_with fail
          have hx1 : Below wr.heap.size wr w1 := by rw [← hb1]; exact (Below.refl _ _).alloc (Nat.le_refl _) _
          have hx3 : Below w2.heap.size w2 w3 := by rw [← hb3]; exact (Below.refl _ _).alloc (Nat.le_refl _) _
          have hx : Below wr.heap.size wr w3 := hx1.trans ((hb2.trans (hx3.mono hb2.size)).mono hx1.size)
          go_roundw
          case rel => exact ⟨n + 1, by omega, by go_num, by rw [HBS.out]; congr 1; omega, HR.out.of_block (hx.block _ HR.out.lt), HB.out.trans (hx.mono HB.out.size)⟩
          case measure => simp [intOf]; omega
        · obtain rfl : n = 3 := by omega
          have hcell := hrow.cell hlt
          have hfz := hrow.frozen i
          have HR := Lib.hid hrow
          have HB := Lib.hid hb
          have HX := Lib.hid (show g i = bt ((sumTo (fun n => one p (wvN 0 i n)) 3 == 3) || (!all && decide (0 < sumTo (fun n => one p (wvN 0 i n)) 3))) by rw [← HG.out]; rfl)
          have hle := sum_le (fun n => one p (wvN 0 i n)) 3
          obtain ⟨S, hS⟩ : ∃ S, sumTo (fun n => one p (wvN 0 i n)) 3 = S := ⟨_, rfl⟩
          rw [hS] at HX hle ⊢
          clear hrow hb hS
          rcases (by omega : S = 3 ∨ (¬ S = 3 ∧ 0 < S) ∨ S = 0) with h3 | ⟨h3, h0⟩ | h0
          all_goals cases all
          · have e3 : (S == 3) = true := by simp; omega
            have e0 : decide (0 < S) = true := by simp; omega
            have HV := Lib.hid (show g i = bt true by rw [HX.out, e3, e0]; rfl)
            have g3 : ((S : Int) == 3) = true := by simp; omega
            have g0 : decide ((0 : Int) < (S : Int)) = true := by simp; omega
            clear HX e3 e0
            go_wp2_with (go_at_call 34; refine (specBit _ _).mono ?_; rintro e w1 ⟨rfl, rfl⟩)
            go_roundw
            case rel => exact ⟨i + 1, by omega, by go_num, fill_step HR.out (by rw [HV.out]), HB.out.setCell (p := ⟨w.heap.size, i, none⟩) (Nat.le_refl _) _⟩
            case measure => simp [intOf]; omega
          · have e3 : (S == 3) = true := by simp; omega
            have e0 : decide (0 < S) = true := by simp; omega
            have HV := Lib.hid (show g i = bt true by rw [HX.out, e3, e0]; rfl)
            have g3 : ((S : Int) == 3) = true := by simp; omega
            have g0 : decide ((0 : Int) < (S : Int)) = true := by simp; omega
            clear HX e3 e0
            go_wp2_with (go_at_call 34; refine (specBit _ _).mono ?_; rintro e w1 ⟨rfl, rfl⟩)
            go_roundw
            case rel => exact ⟨i + 1, by omega, by go_num, fill_step HR.out (by rw [HV.out]), HB.out.setCell (p := ⟨w.heap.size, i, none⟩) (Nat.le_refl _) _⟩
            case measure => simp [intOf]; omega
          · have e3 : (S == 3) = false := by simp; omega
            have e0 : decide (0 < S) = true := by simp; omega
            have HV := Lib.hid (show g i = bt true by rw [HX.out, e3, e0]; rfl)
            have g3 : ((S : Int) == 3) = false := by simp; omega
            have g0 : decide ((0 : Int) < (S : Int)) = true := by simp; omega
            clear HX e3 e0
            go_wp2_with (go_at_call 34; refine (specBit _ _).mono ?_; rintro e w1 ⟨rfl, rfl⟩)
            go_roundw
            case rel => exact ⟨i + 1, by omega, by go_num, fill_step HR.out (by rw [HV.out]), HB.out.setCell (p := ⟨w.heap.size, i, none⟩) (Nat.le_refl _) _⟩
            case measure => simp [intOf]; omega
          · have e3 : (S == 3) = false := by simp; omega
            have e0 : decide (0 < S) = true := by simp; omega
            have HV := Lib.hid (show g i = bt false by rw [HX.out, e3, e0]; rfl)
            have g3 : ((S : Int) == 3) = false := by simp; omega
            have g0 : decide ((0 : Int) < (S : Int)) = true := by simp; omega
            clear HX e3 e0
            go_wp2_with (go_at_call 34; refine (specBit _ _).mono ?_; rintro e w1 ⟨rfl, rfl⟩)
            go_roundw
            case rel => exact ⟨i + 1, by omega, by go_num, fill_step HR.out (by rw [HV.out]), HB.out.setCell (p := ⟨w.heap.size, i, none⟩) (Nat.le_refl _) _⟩
            case measure => simp [intOf]; omega
          · have e3 : (S == 3) = false := by simp; omega
            have e0 : decide (0 < S) = false := by simp; omega
            have HV := Lib.hid (show g i = bt false by rw [HX.out, e3, e0]; rfl)
            have g3 : ((S : Int) == 3) = false := by simp; omega
            have g0 : decide ((0 : Int) < (S : Int)) = false := by simp; omega
            clear HX e3 e0
            go_wp2_with (go_at_call 34; refine (specBit _ _).mono ?_; rintro e w1 ⟨rfl, rfl⟩)
            go_roundw
            case rel => exact ⟨i + 1, by omega, by go_num, fill_step HR.out (by rw [HV.out]), HB.out.setCell (p := ⟨w.heap.size, i, none⟩) (Nat.le_refl _) _⟩
            case measure => simp [intOf]; omega
          · have e3 : (S == 3) = false := by simp; omega
            have e0 : decide (0 < S) = false := by simp; omega
            have HV := Lib.hid (show g i = bt false by rw [HX.out, e3, e0]; rfl)
            have g3 : ((S : Int) == 3) = false := by simp; omega
            have g0 : decide ((0 : Int) < (S : Int)) = false := by simp; omega
            clear HX e3 e0
            go_wp2_with (go_at_call 34; refine (specBit _ _).mono ?_; rintro e w1 ⟨rfl, rfl⟩)
            go_roundw
            case rel => exact ⟨i + 1, by omega, by go_num, fill_step HR.out (by rw [HV.out]), HB.out.setCell (p := ⟨w.heap.size, i, none⟩) (Nat.le_refl _) _⟩
            case measure => simp [intOf]; omega
    · obtain rfl : i = 27 := by omega
      have hcv := convU8 (cap := 27) (fill_all hrow)
      go_wp2_with fail
      go_ret
      exact ⟨rfl, hb⟩
set_option maxHeartbeats 1000000 in
set_option maxRecDepth 100000 in
theorem specQuant1 (all : Bool) (p : ByteArray) (w : World) (hp : bitsB p 27 = true) :
    Calls Tryd.prog 14 #[.string p, .int .i64 1, .bool all] w fun e w' => e = .returned (.string (mk 27 fun i => bt (quantB all p 1 i))) ∧ Below w.heap.size w w' := by
  have hmk := run_make_row' (P := Tryd.prog) 39 5 (.int .u8 0) 1 Tryd.underlying39 infoU8 rfl .i64 .i64 27 (by omega) (by omega)
  rw [show ((27 : Nat) : Int) = 27 from rfl] at hmk
  have hs := bits_size hp
  have HBIT := Lib.hid (fun j hj => bits_bit hp (k := j) hj)
  obtain ⟨g, hg⟩ : ∃ g, (fun i => bt (quantB all p 1 i)) = g := ⟨_, rfl⟩
  rw [hg]
  have HG := Lib.hid hg
  clear hp hg
  go_enter Tryd.func14, Tryd.ntmps14
  go_wp2
  go_loopw [8, 9, 10] (fun i n k wr => ∃ j : Nat, j ≤ 27 ∧ i = .int .i64 j ∧ wr.rowIs w.heap.size 5 27 (fillTo g j) ∧ Below w.heap.size w wr) (fun i _ _ _ => 27 - (intOf i).toNat)
  case atStart => exact ⟨0, Nat.zero_le _, rfl, fill_zero _ _ _ _, (Below.refl _ _).alloc (Nat.le_refl _) _⟩
  case round =>
    obtain ⟨i, hi, rfl, hrow, hb⟩ := hrel
    by_cases hlt : i < 27
    · have hd : decide ((i : Int) < 27) = true := by simp; omega
      have HAT := Lib.hid (fun w => specAt (i : Int) w (by omega) (by omega))
      go_wp2_with fail
      go_loopw [9, 10] (fun n k wr => ∃ j : Nat, j ≤ 3 ∧ k = .int .i64 j ∧ n = .int .i64 (sumTo (fun n => one p (wvN 1 i n)) j : Int) ∧ wr.rowIs w.heap.size 5 27 (fillTo g i) ∧ Below w.heap.size w wr) (fun _ k _ => 3 - (intOf k).toNat)
      case atStart => exact ⟨0, Nat.zero_le _, rfl, rfl, hrow, hb⟩
      case round =>
        clear hrow hb
        obtain ⟨n, hn, rfl, rfl, hrow, hb⟩ := hrel
        by_cases hln : n < 3
        · have hd3 : decide ((n : Int) < 3) = true := by simp; omega
          have hw := wv_nat 1 hlt hln
          have HI := Lib.hid (fun w => specIndex (sx i) ((n : Int)) (sz i) w (by simpa using st_ok 1 i n hlt hln))
          rw [show ix (sx i) ((n : Int)) (sz i) = (wvN 1 i n : Int) by rw [← hw.1]; rfl] at HI
          have hw1 : wvN 1 i n < p.size := by omega
          obtain ⟨b, hb8, hb1, hbs⟩ : ∃ b : Nat, (p[wvN 1 i n]'hw1).toNat = 48 + b ∧ b ≤ 1 ∧ sumTo (fun n => one p (wvN 1 i n)) (n + 1) = sumTo (fun n => one p (wvN 1 i n)) n + b := by
            rcases HBIT.out _ hw1 with h | h
            · exact ⟨0, by omega, by omega, by simp [sumTo, one_false hw1 (by omega)]⟩
            · exact ⟨1, by omega, by omega, by simp [sumTo, one_true hw1 h]⟩
          have hle := sum_le (fun n => one p (wvN 1 i n)) n
          obtain ⟨S, hS⟩ : ∃ S, sumTo (fun n => one p (wvN 1 i n)) n = S := ⟨_, rfl⟩
          rw [hS] at hbs hle ⊢
          have HBS := Lib.hid hbs
          obtain ⟨W, hW⟩ : ∃ W, wvN 1 i n = W := ⟨_, rfl⟩
          have HR := Lib.hid hrow
          have hw2 : W < p.size := by omega
          have hb9 : (p[W]'hw2).toNat = 48 + b := by simpa only [hW] using hb8
          rw [hW] at HI
          have HW := Lib.hid (fun w => specWith1 (sx i) (sy i) (sz i) (n : Int) w)
          have HB := Lib.hid hb
          clear hbs hrow hS hw hw1 hW hb8 hb
          go_wp2_with fail
          refine (HAT.out _).mono ?_
          rintro e w1 ⟨rfl, hb1⟩
          go_wp2_with fail
          refine (HW.out _).mono ?_
          rintro e w2 ⟨rfl, hb2⟩
          go_wp2_with fail
          refine (HI.out _).mono ?_
          rintro e w3 ⟨rfl, hb3⟩
          go_wp2_with fail
          have hx1 : Below wr.heap.size wr w1 := by rw [← hb1]; exact (Below.refl _ _).alloc (Nat.le_refl _) _
          have hx3 : Below w2.heap.size w2 w3 := by rw [← hb3]; exact (Below.refl _ _).alloc (Nat.le_refl _) _
          have hx : Below wr.heap.size wr w3 := hx1.trans ((hb2.trans (hx3.mono hb2.size)).mono hx1.size)
          go_roundw
          case rel => exact ⟨n + 1, by omega, by go_num, by rw [HBS.out]; congr 1; omega, HR.out.of_block (hx.block _ HR.out.lt), HB.out.trans (hx.mono HB.out.size)⟩
          case measure => simp [intOf]; omega
        · obtain rfl : n = 3 := by omega
          have hcell := hrow.cell hlt
          have hfz := hrow.frozen i
          have HR := Lib.hid hrow
          have HB := Lib.hid hb
          have HX := Lib.hid (show g i = bt ((sumTo (fun n => one p (wvN 1 i n)) 3 == 3) || (!all && decide (0 < sumTo (fun n => one p (wvN 1 i n)) 3))) by rw [← HG.out]; rfl)
          have hle := sum_le (fun n => one p (wvN 1 i n)) 3
          obtain ⟨S, hS⟩ : ∃ S, sumTo (fun n => one p (wvN 1 i n)) 3 = S := ⟨_, rfl⟩
          rw [hS] at HX hle ⊢
          clear hrow hb hS
          rcases (by omega : S = 3 ∨ (¬ S = 3 ∧ 0 < S) ∨ S = 0) with h3 | ⟨h3, h0⟩ | h0
          all_goals cases all
          · have e3 : (S == 3) = true := by simp; omega
            have e0 : decide (0 < S) = true := by simp; omega
            have HV := Lib.hid (show g i = bt true by rw [HX.out, e3, e0]; rfl)
            have g3 : ((S : Int) == 3) = true := by simp; omega
            have g0 : decide ((0 : Int) < (S : Int)) = true := by simp; omega
            clear HX e3 e0
            go_wp2_with (go_at_call 34; refine (specBit _ _).mono ?_; rintro e w1 ⟨rfl, rfl⟩)
            go_roundw
            case rel => exact ⟨i + 1, by omega, by go_num, fill_step HR.out (by rw [HV.out]), HB.out.setCell (p := ⟨w.heap.size, i, none⟩) (Nat.le_refl _) _⟩
            case measure => simp [intOf]; omega
          · have e3 : (S == 3) = true := by simp; omega
            have e0 : decide (0 < S) = true := by simp; omega
            have HV := Lib.hid (show g i = bt true by rw [HX.out, e3, e0]; rfl)
            have g3 : ((S : Int) == 3) = true := by simp; omega
            have g0 : decide ((0 : Int) < (S : Int)) = true := by simp; omega
            clear HX e3 e0
            go_wp2_with (go_at_call 34; refine (specBit _ _).mono ?_; rintro e w1 ⟨rfl, rfl⟩)
            go_roundw
            case rel => exact ⟨i + 1, by omega, by go_num, fill_step HR.out (by rw [HV.out]), HB.out.setCell (p := ⟨w.heap.size, i, none⟩) (Nat.le_refl _) _⟩
            case measure => simp [intOf]; omega
          · have e3 : (S == 3) = false := by simp; omega
            have e0 : decide (0 < S) = true := by simp; omega
            have HV := Lib.hid (show g i = bt true by rw [HX.out, e3, e0]; rfl)
            have g3 : ((S : Int) == 3) = false := by simp; omega
            have g0 : decide ((0 : Int) < (S : Int)) = true := by simp; omega
            clear HX e3 e0
            go_wp2_with (go_at_call 34; refine (specBit _ _).mono ?_; rintro e w1 ⟨rfl, rfl⟩)
            go_roundw
            case rel => exact ⟨i + 1, by omega, by go_num, fill_step HR.out (by rw [HV.out]), HB.out.setCell (p := ⟨w.heap.size, i, none⟩) (Nat.le_refl _) _⟩
            case measure => simp [intOf]; omega
          · have e3 : (S == 3) = false := by simp; omega
            have e0 : decide (0 < S) = true := by simp; omega
            have HV := Lib.hid (show g i = bt false by rw [HX.out, e3, e0]; rfl)
            have g3 : ((S : Int) == 3) = false := by simp; omega
            have g0 : decide ((0 : Int) < (S : Int)) = true := by simp; omega
            clear HX e3 e0
            go_wp2_with (go_at_call 34; refine (specBit _ _).mono ?_; rintro e w1 ⟨rfl, rfl⟩)
            go_roundw
            case rel => exact ⟨i + 1, by omega, by go_num, fill_step HR.out (by rw [HV.out]), HB.out.setCell (p := ⟨w.heap.size, i, none⟩) (Nat.le_refl _) _⟩
            case measure => simp [intOf]; omega
          · have e3 : (S == 3) = false := by simp; omega
            have e0 : decide (0 < S) = false := by simp; omega
            have HV := Lib.hid (show g i = bt false by rw [HX.out, e3, e0]; rfl)
            have g3 : ((S : Int) == 3) = false := by simp; omega
            have g0 : decide ((0 : Int) < (S : Int)) = false := by simp; omega
            clear HX e3 e0
            go_wp2_with (go_at_call 34; refine (specBit _ _).mono ?_; rintro e w1 ⟨rfl, rfl⟩)
            go_roundw
            case rel => exact ⟨i + 1, by omega, by go_num, fill_step HR.out (by rw [HV.out]), HB.out.setCell (p := ⟨w.heap.size, i, none⟩) (Nat.le_refl _) _⟩
            case measure => simp [intOf]; omega
          · have e3 : (S == 3) = false := by simp; omega
            have e0 : decide (0 < S) = false := by simp; omega
            have HV := Lib.hid (show g i = bt false by rw [HX.out, e3, e0]; rfl)
            have g3 : ((S : Int) == 3) = false := by simp; omega
            have g0 : decide ((0 : Int) < (S : Int)) = false := by simp; omega
            clear HX e3 e0
            go_wp2_with (go_at_call 34; refine (specBit _ _).mono ?_; rintro e w1 ⟨rfl, rfl⟩)
            go_roundw
            case rel => exact ⟨i + 1, by omega, by go_num, fill_step HR.out (by rw [HV.out]), HB.out.setCell (p := ⟨w.heap.size, i, none⟩) (Nat.le_refl _) _⟩
            case measure => simp [intOf]; omega
    · obtain rfl : i = 27 := by omega
      have hcv := convU8 (cap := 27) (fill_all hrow)
      go_wp2_with fail
      go_ret
      exact ⟨rfl, hb⟩
set_option maxHeartbeats 1000000 in
set_option maxRecDepth 100000 in
theorem specQuant2 (all : Bool) (p : ByteArray) (w : World) (hp : bitsB p 27 = true) :
    Calls Tryd.prog 14 #[.string p, .int .i64 2, .bool all] w fun e w' => e = .returned (.string (mk 27 fun i => bt (quantB all p 2 i))) ∧ Below w.heap.size w w' := by
  have hmk := run_make_row' (P := Tryd.prog) 39 5 (.int .u8 0) 1 Tryd.underlying39 infoU8 rfl .i64 .i64 27 (by omega) (by omega)
  rw [show ((27 : Nat) : Int) = 27 from rfl] at hmk
  have hs := bits_size hp
  have HBIT := Lib.hid (fun j hj => bits_bit hp (k := j) hj)
  obtain ⟨g, hg⟩ : ∃ g, (fun i => bt (quantB all p 2 i)) = g := ⟨_, rfl⟩
  rw [hg]
  have HG := Lib.hid hg
  clear hp hg
  go_enter Tryd.func14, Tryd.ntmps14
  go_wp2
  go_loopw [8, 9, 10] (fun i n k wr => ∃ j : Nat, j ≤ 27 ∧ i = .int .i64 j ∧ wr.rowIs w.heap.size 5 27 (fillTo g j) ∧ Below w.heap.size w wr) (fun i _ _ _ => 27 - (intOf i).toNat)
  case atStart => exact ⟨0, Nat.zero_le _, rfl, fill_zero _ _ _ _, (Below.refl _ _).alloc (Nat.le_refl _) _⟩
  case round =>
    obtain ⟨i, hi, rfl, hrow, hb⟩ := hrel
    by_cases hlt : i < 27
    · have hd : decide ((i : Int) < 27) = true := by simp; omega
      have HAT := Lib.hid (fun w => specAt (i : Int) w (by omega) (by omega))
      go_wp2_with fail
      go_loopw [9, 10] (fun n k wr => ∃ j : Nat, j ≤ 3 ∧ k = .int .i64 j ∧ n = .int .i64 (sumTo (fun n => one p (wvN 2 i n)) j : Int) ∧ wr.rowIs w.heap.size 5 27 (fillTo g i) ∧ Below w.heap.size w wr) (fun _ k _ => 3 - (intOf k).toNat)
      case atStart => exact ⟨0, Nat.zero_le _, rfl, rfl, hrow, hb⟩
      case round =>
        clear hrow hb
        obtain ⟨n, hn, rfl, rfl, hrow, hb⟩ := hrel
        by_cases hln : n < 3
        · have hd3 : decide ((n : Int) < 3) = true := by simp; omega
          have hw := wv_nat 2 hlt hln
          have HI := Lib.hid (fun w => specIndex (sx i) (sy i) ((n : Int)) w (by simpa using st_ok 2 i n hlt hln))
          rw [show ix (sx i) (sy i) ((n : Int)) = (wvN 2 i n : Int) by rw [← hw.1]; rfl] at HI
          have hw1 : wvN 2 i n < p.size := by omega
          obtain ⟨b, hb8, hb1, hbs⟩ : ∃ b : Nat, (p[wvN 2 i n]'hw1).toNat = 48 + b ∧ b ≤ 1 ∧ sumTo (fun n => one p (wvN 2 i n)) (n + 1) = sumTo (fun n => one p (wvN 2 i n)) n + b := by
            rcases HBIT.out _ hw1 with h | h
            · exact ⟨0, by omega, by omega, by simp [sumTo, one_false hw1 (by omega)]⟩
            · exact ⟨1, by omega, by omega, by simp [sumTo, one_true hw1 h]⟩
          have hle := sum_le (fun n => one p (wvN 2 i n)) n
          obtain ⟨S, hS⟩ : ∃ S, sumTo (fun n => one p (wvN 2 i n)) n = S := ⟨_, rfl⟩
          rw [hS] at hbs hle ⊢
          have HBS := Lib.hid hbs
          obtain ⟨W, hW⟩ : ∃ W, wvN 2 i n = W := ⟨_, rfl⟩
          have HR := Lib.hid hrow
          have hw2 : W < p.size := by omega
          have hb9 : (p[W]'hw2).toNat = 48 + b := by simpa only [hW] using hb8
          rw [hW] at HI
          have HW := Lib.hid (fun w => specWith2 (sx i) (sy i) (sz i) (n : Int) w)
          have HB := Lib.hid hb
          clear hbs hrow hS hw hw1 hW hb8 hb
          go_wp2_with fail
          refine (HAT.out _).mono ?_
          rintro e w1 ⟨rfl, hb1⟩
          go_wp2_with fail
          refine (HW.out _).mono ?_
          rintro e w2 ⟨rfl, hb2⟩
          go_wp2_with fail
          refine (HI.out _).mono ?_
          rintro e w3 ⟨rfl, hb3⟩
          go_wp2_with fail
          have hx1 : Below wr.heap.size wr w1 := by rw [← hb1]; exact (Below.refl _ _).alloc (Nat.le_refl _) _
          have hx3 : Below w2.heap.size w2 w3 := by rw [← hb3]; exact (Below.refl _ _).alloc (Nat.le_refl _) _
          have hx : Below wr.heap.size wr w3 := hx1.trans ((hb2.trans (hx3.mono hb2.size)).mono hx1.size)
          go_roundw
          case rel => exact ⟨n + 1, by omega, by go_num, by rw [HBS.out]; congr 1; omega, HR.out.of_block (hx.block _ HR.out.lt), HB.out.trans (hx.mono HB.out.size)⟩
          case measure => simp [intOf]; omega
        · obtain rfl : n = 3 := by omega
          have hcell := hrow.cell hlt
          have hfz := hrow.frozen i
          have HR := Lib.hid hrow
          have HB := Lib.hid hb
          have HX := Lib.hid (show g i = bt ((sumTo (fun n => one p (wvN 2 i n)) 3 == 3) || (!all && decide (0 < sumTo (fun n => one p (wvN 2 i n)) 3))) by rw [← HG.out]; rfl)
          have hle := sum_le (fun n => one p (wvN 2 i n)) 3
          obtain ⟨S, hS⟩ : ∃ S, sumTo (fun n => one p (wvN 2 i n)) 3 = S := ⟨_, rfl⟩
          rw [hS] at HX hle ⊢
          clear hrow hb hS
          rcases (by omega : S = 3 ∨ (¬ S = 3 ∧ 0 < S) ∨ S = 0) with h3 | ⟨h3, h0⟩ | h0
          all_goals cases all
          · have e3 : (S == 3) = true := by simp; omega
            have e0 : decide (0 < S) = true := by simp; omega
            have HV := Lib.hid (show g i = bt true by rw [HX.out, e3, e0]; rfl)
            have g3 : ((S : Int) == 3) = true := by simp; omega
            have g0 : decide ((0 : Int) < (S : Int)) = true := by simp; omega
            clear HX e3 e0
            go_wp2_with (go_at_call 34; refine (specBit _ _).mono ?_; rintro e w1 ⟨rfl, rfl⟩)
            go_roundw
            case rel => exact ⟨i + 1, by omega, by go_num, fill_step HR.out (by rw [HV.out]), HB.out.setCell (p := ⟨w.heap.size, i, none⟩) (Nat.le_refl _) _⟩
            case measure => simp [intOf]; omega
          · have e3 : (S == 3) = true := by simp; omega
            have e0 : decide (0 < S) = true := by simp; omega
            have HV := Lib.hid (show g i = bt true by rw [HX.out, e3, e0]; rfl)
            have g3 : ((S : Int) == 3) = true := by simp; omega
            have g0 : decide ((0 : Int) < (S : Int)) = true := by simp; omega
            clear HX e3 e0
            go_wp2_with (go_at_call 34; refine (specBit _ _).mono ?_; rintro e w1 ⟨rfl, rfl⟩)
            go_roundw
            case rel => exact ⟨i + 1, by omega, by go_num, fill_step HR.out (by rw [HV.out]), HB.out.setCell (p := ⟨w.heap.size, i, none⟩) (Nat.le_refl _) _⟩
            case measure => simp [intOf]; omega
          · have e3 : (S == 3) = false := by simp; omega
            have e0 : decide (0 < S) = true := by simp; omega
            have HV := Lib.hid (show g i = bt true by rw [HX.out, e3, e0]; rfl)
            have g3 : ((S : Int) == 3) = false := by simp; omega
            have g0 : decide ((0 : Int) < (S : Int)) = true := by simp; omega
            clear HX e3 e0
            go_wp2_with (go_at_call 34; refine (specBit _ _).mono ?_; rintro e w1 ⟨rfl, rfl⟩)
            go_roundw
            case rel => exact ⟨i + 1, by omega, by go_num, fill_step HR.out (by rw [HV.out]), HB.out.setCell (p := ⟨w.heap.size, i, none⟩) (Nat.le_refl _) _⟩
            case measure => simp [intOf]; omega
          · have e3 : (S == 3) = false := by simp; omega
            have e0 : decide (0 < S) = true := by simp; omega
            have HV := Lib.hid (show g i = bt false by rw [HX.out, e3, e0]; rfl)
            have g3 : ((S : Int) == 3) = false := by simp; omega
            have g0 : decide ((0 : Int) < (S : Int)) = true := by simp; omega
            clear HX e3 e0
            go_wp2_with (go_at_call 34; refine (specBit _ _).mono ?_; rintro e w1 ⟨rfl, rfl⟩)
            go_roundw
            case rel => exact ⟨i + 1, by omega, by go_num, fill_step HR.out (by rw [HV.out]), HB.out.setCell (p := ⟨w.heap.size, i, none⟩) (Nat.le_refl _) _⟩
            case measure => simp [intOf]; omega
          · have e3 : (S == 3) = false := by simp; omega
            have e0 : decide (0 < S) = false := by simp; omega
            have HV := Lib.hid (show g i = bt false by rw [HX.out, e3, e0]; rfl)
            have g3 : ((S : Int) == 3) = false := by simp; omega
            have g0 : decide ((0 : Int) < (S : Int)) = false := by simp; omega
            clear HX e3 e0
            go_wp2_with (go_at_call 34; refine (specBit _ _).mono ?_; rintro e w1 ⟨rfl, rfl⟩)
            go_roundw
            case rel => exact ⟨i + 1, by omega, by go_num, fill_step HR.out (by rw [HV.out]), HB.out.setCell (p := ⟨w.heap.size, i, none⟩) (Nat.le_refl _) _⟩
            case measure => simp [intOf]; omega
          · have e3 : (S == 3) = false := by simp; omega
            have e0 : decide (0 < S) = false := by simp; omega
            have HV := Lib.hid (show g i = bt false by rw [HX.out, e3, e0]; rfl)
            have g3 : ((S : Int) == 3) = false := by simp; omega
            have g0 : decide ((0 : Int) < (S : Int)) = false := by simp; omega
            clear HX e3 e0
            go_wp2_with (go_at_call 34; refine (specBit _ _).mono ?_; rintro e w1 ⟨rfl, rfl⟩)
            go_roundw
            case rel => exact ⟨i + 1, by omega, by go_num, fill_step HR.out (by rw [HV.out]), HB.out.setCell (p := ⟨w.heap.size, i, none⟩) (Nat.le_refl _) _⟩
            case measure => simp [intOf]; omega
    · obtain rfl : i = 27 := by omega
      have hcv := convU8 (cap := 27) (fill_all hrow)
      go_wp2_with fail
      go_ret
      exact ⟨rfl, hb⟩
theorem implWith (k : Nat) (i n : Int) (w : World) (hk : k < 3) (h0 : 0 ≤ i) (h1 : i < 27) (n0 : 0 ≤ n) (n1 : n < 3) (hst : strideAt w) :
    Calls Tryd.prog 20 #[.int .i64 i, .int .i64 (k : Int), .int .i64 n] w fun e w' => e = .returned (.int .i64 (wvI k i n)) ∧ ∃ m, w' = w.drewN m := by
  rcases (by omega : k = 0 ∨ k = 1 ∨ k = 2) with rfl | rfl | rfl
  · exact implWith0 i n w h0 h1 n0 n1 hst
  · exact implWith1 i n w h0 h1 n0 n1 hst
  · exact implWith2 i n w h0 h1 n0 n1 hst
set_option maxHeartbeats 1000000 in
theorem tells_AllVar (k : Nat) (p : ByteArray) (w : World) (b1 b2 : Nat) (h1 : w.cell? ⟨b1, 0, none⟩ = some (.string p)) (h2 : w.cell? ⟨b2, 0, none⟩ = some (.int .i64 (k : Int))) (hk : k < 3) (hp : p.size = 27) (hst : strideAt w) :
    Tells 19 #[.pointer (some ⟨b1, 0, none⟩), .pointer (some ⟨b2, 0, none⟩)] 27 (fun i => quantB true p k i) w := by
  intro i hi W hb
  have c1 := (hb.cell (p := ⟨b1, 0, none⟩) (block_lt_of_cell h1)).trans h1
  have c2 := (hb.cell (p := ⟨b2, 0, none⟩) (block_lt_of_cell h2)).trans h2
  have hst1 := stride_below hst hb
  show Calls Tryd.prog 19 #[.int .i64 (i : Int), .pointer (some ⟨b1, 0, none⟩), .pointer (some ⟨b2, 0, none⟩)] W _
  have HW := Lib.hid (fun (n : Int) (q : Nat) n0 n1 => implWith k (i : Int) n (W.drewN q) hk (by omega) (by omega) n0 n1 (show strideAt (W.drewN q) from hst1))
  obtain ⟨hw0, hl0⟩ := wv_nat k hi (n := 0) (by omega)
  obtain ⟨hw1, hl1⟩ := wv_nat k hi (n := 1) (by omega)
  obtain ⟨hw2, hl2⟩ := wv_nat k hi (n := 2) (by omega)
  rw [← hp] at hl0 hl1 hl2
  have HQ := Lib.hid (quant_all p k i)
  obtain ⟨J, hJ⟩ : ∃ J, (fun n => wvI k i n) = J := ⟨_, rfl⟩
  have hJ' : ∀ n, wvI k i n = J n := fun n => by rw [← hJ]
  simp only [hJ'] at HW hw0 hw1 hw2
  obtain ⟨j0, e0⟩ : ∃ j, wvN k i 0 = j := ⟨_, rfl⟩
  obtain ⟨j1, e1⟩ : ∃ j, wvN k i 1 = j := ⟨_, rfl⟩
  obtain ⟨j2, e2⟩ : ∃ j, wvN k i 2 = j := ⟨_, rfl⟩
  rw [e0] at hl0 hw0
  rw [e1] at hl1 hw1
  rw [e2] at hl2 hw2
  rw [e0, e1, e2, one_at hl0, one_at hl1, one_at hl2] at HQ
  simp only [Int.ofNat_zero, Int.natCast_zero, Int.natCast_one, show ((2 : Nat) : Int) = 2 from rfl, show ((1 : Nat) : Int) = 1 from rfl] at hw0 hw1 hw2
  clear h1 h2 hp hb hst hst1 hJ hJ' e0 e1 e2
  by_cases u0 : p[j0].toNat = 49
  all_goals by_cases u1 : p[j1].toNat = 49
  all_goals by_cases u2 : p[j2].toNat = 49
  · have HV := Lib.hid (show quantB true p k i = true by rw [HQ.out, beq_iff_eq.2 u0, beq_iff_eq.2 u1, beq_iff_eq.2 u2]; rfl)
    have g0 : ((p[j0].toNat : Int) == 49) = true := by simp; omega
    have g1 : ((p[j1].toNat : Int) == 49) = true := by simp; omega
    have g2 : ((p[j2].toNat : Int) == 49) = true := by simp; omega
    clear u0 u1 u2 HQ
    go_enter Tryd.func19, Tryd.ntmps19
    go_wp2_with fail
    go_quiet (first | (go_at_call 20; exact Calls.quiet_of (HW.out _ _ (by omega) (by omega))))
    go_wp2_with fail
    go_ret
    refine ⟨?_, ⟨rfl, rfl, rfl, Nat.le_refl _, fun _ _ => rfl⟩⟩
    show _ = Ending.returned (.bool (quantB true p k i))
    rw [HV.out]
    rfl
  · have HV := Lib.hid (show quantB true p k i = false by rw [HQ.out, beq_iff_eq.2 u0, beq_iff_eq.2 u1, beq_eq_false_iff_ne.2 u2]; rfl)
    have g0 : ((p[j0].toNat : Int) == 49) = true := by simp; omega
    have g1 : ((p[j1].toNat : Int) == 49) = true := by simp; omega
    have g2 : ((p[j2].toNat : Int) == 49) = false := by simp; omega
    clear u0 u1 u2 HQ
    go_enter Tryd.func19, Tryd.ntmps19
    go_wp2_with fail
    go_quiet (first | (go_at_call 20; exact Calls.quiet_of (HW.out _ _ (by omega) (by omega))))
    go_wp2_with fail
    go_ret
    refine ⟨?_, ⟨rfl, rfl, rfl, Nat.le_refl _, fun _ _ => rfl⟩⟩
    show _ = Ending.returned (.bool (quantB true p k i))
    rw [HV.out]
    rfl
  · have HV := Lib.hid (show quantB true p k i = false by rw [HQ.out, beq_iff_eq.2 u0, beq_eq_false_iff_ne.2 u1, beq_iff_eq.2 u2]; rfl)
    have g0 : ((p[j0].toNat : Int) == 49) = true := by simp; omega
    have g1 : ((p[j1].toNat : Int) == 49) = false := by simp; omega
    have g2 : ((p[j2].toNat : Int) == 49) = true := by simp; omega
    clear u0 u1 u2 HQ
    go_enter Tryd.func19, Tryd.ntmps19
    go_wp2_with fail
    go_quiet (first | (go_at_call 20; exact Calls.quiet_of (HW.out _ _ (by omega) (by omega))))
    go_wp2_with fail
    go_ret
    refine ⟨?_, ⟨rfl, rfl, rfl, Nat.le_refl _, fun _ _ => rfl⟩⟩
    show _ = Ending.returned (.bool (quantB true p k i))
    rw [HV.out]
    rfl
  · have HV := Lib.hid (show quantB true p k i = false by rw [HQ.out, beq_iff_eq.2 u0, beq_eq_false_iff_ne.2 u1, beq_eq_false_iff_ne.2 u2]; rfl)
    have g0 : ((p[j0].toNat : Int) == 49) = true := by simp; omega
    have g1 : ((p[j1].toNat : Int) == 49) = false := by simp; omega
    have g2 : ((p[j2].toNat : Int) == 49) = false := by simp; omega
    clear u0 u1 u2 HQ
    go_enter Tryd.func19, Tryd.ntmps19
    go_wp2_with fail
    go_quiet (first | (go_at_call 20; exact Calls.quiet_of (HW.out _ _ (by omega) (by omega))))
    go_wp2_with fail
    go_ret
    refine ⟨?_, ⟨rfl, rfl, rfl, Nat.le_refl _, fun _ _ => rfl⟩⟩
    show _ = Ending.returned (.bool (quantB true p k i))
    rw [HV.out]
    rfl
  · have HV := Lib.hid (show quantB true p k i = false by rw [HQ.out, beq_eq_false_iff_ne.2 u0, beq_iff_eq.2 u1, beq_iff_eq.2 u2]; rfl)
    have g0 : ((p[j0].toNat : Int) == 49) = false := by simp; omega
    have g1 : ((p[j1].toNat : Int) == 49) = true := by simp; omega
    have g2 : ((p[j2].toNat : Int) == 49) = true := by simp; omega
    clear u0 u1 u2 HQ
    go_enter Tryd.func19, Tryd.ntmps19
    go_wp2_with fail
    go_quiet (first | (go_at_call 20; exact Calls.quiet_of (HW.out _ _ (by omega) (by omega))))
    go_wp2_with fail
    go_ret
    refine ⟨?_, ⟨rfl, rfl, rfl, Nat.le_refl _, fun _ _ => rfl⟩⟩
    show _ = Ending.returned (.bool (quantB true p k i))
    rw [HV.out]
    rfl
  · have HV := Lib.hid (show quantB true p k i = false by rw [HQ.out, beq_eq_false_iff_ne.2 u0, beq_iff_eq.2 u1, beq_eq_false_iff_ne.2 u2]; rfl)
    have g0 : ((p[j0].toNat : Int) == 49) = false := by simp; omega
    have g1 : ((p[j1].toNat : Int) == 49) = true := by simp; omega
    have g2 : ((p[j2].toNat : Int) == 49) = false := by simp; omega
    clear u0 u1 u2 HQ
    go_enter Tryd.func19, Tryd.ntmps19
    go_wp2_with fail
    go_quiet (first | (go_at_call 20; exact Calls.quiet_of (HW.out _ _ (by omega) (by omega))))
    go_wp2_with fail
    go_ret
    refine ⟨?_, ⟨rfl, rfl, rfl, Nat.le_refl _, fun _ _ => rfl⟩⟩
    show _ = Ending.returned (.bool (quantB true p k i))
    rw [HV.out]
    rfl
  · have HV := Lib.hid (show quantB true p k i = false by rw [HQ.out, beq_eq_false_iff_ne.2 u0, beq_eq_false_iff_ne.2 u1, beq_iff_eq.2 u2]; rfl)
    have g0 : ((p[j0].toNat : Int) == 49) = false := by simp; omega
    have g1 : ((p[j1].toNat : Int) == 49) = false := by simp; omega
    have g2 : ((p[j2].toNat : Int) == 49) = true := by simp; omega
    clear u0 u1 u2 HQ
    go_enter Tryd.func19, Tryd.ntmps19
    go_wp2_with fail
    go_quiet (first | (go_at_call 20; exact Calls.quiet_of (HW.out _ _ (by omega) (by omega))))
    go_wp2_with fail
    go_ret
    refine ⟨?_, ⟨rfl, rfl, rfl, Nat.le_refl _, fun _ _ => rfl⟩⟩
    show _ = Ending.returned (.bool (quantB true p k i))
    rw [HV.out]
    rfl
  · have HV := Lib.hid (show quantB true p k i = false by rw [HQ.out, beq_eq_false_iff_ne.2 u0, beq_eq_false_iff_ne.2 u1, beq_eq_false_iff_ne.2 u2]; rfl)
    have g0 : ((p[j0].toNat : Int) == 49) = false := by simp; omega
    have g1 : ((p[j1].toNat : Int) == 49) = false := by simp; omega
    have g2 : ((p[j2].toNat : Int) == 49) = false := by simp; omega
    clear u0 u1 u2 HQ
    go_enter Tryd.func19, Tryd.ntmps19
    go_wp2_with fail
    go_quiet (first | (go_at_call 20; exact Calls.quiet_of (HW.out _ _ (by omega) (by omega))))
    go_wp2_with fail
    go_ret
    refine ⟨?_, ⟨rfl, rfl, rfl, Nat.le_refl _, fun _ _ => rfl⟩⟩
    show _ = Ending.returned (.bool (quantB true p k i))
    rw [HV.out]
    rfl
set_option maxHeartbeats 1000000 in
theorem tells_SomeVar (k : Nat) (p : ByteArray) (w : World) (b1 b2 : Nat) (h1 : w.cell? ⟨b1, 0, none⟩ = some (.string p)) (h2 : w.cell? ⟨b2, 0, none⟩ = some (.int .i64 (k : Int))) (hk : k < 3) (hp : p.size = 27) (hst : strideAt w) :
    Tells 21 #[.pointer (some ⟨b1, 0, none⟩), .pointer (some ⟨b2, 0, none⟩)] 27 (fun i => quantB false p k i) w := by
  intro i hi W hb
  have c1 := (hb.cell (p := ⟨b1, 0, none⟩) (block_lt_of_cell h1)).trans h1
  have c2 := (hb.cell (p := ⟨b2, 0, none⟩) (block_lt_of_cell h2)).trans h2
  have hst1 := stride_below hst hb
  show Calls Tryd.prog 21 #[.int .i64 (i : Int), .pointer (some ⟨b1, 0, none⟩), .pointer (some ⟨b2, 0, none⟩)] W _
  have HW := Lib.hid (fun (n : Int) (q : Nat) n0 n1 => implWith k (i : Int) n (W.drewN q) hk (by omega) (by omega) n0 n1 (show strideAt (W.drewN q) from hst1))
  obtain ⟨hw0, hl0⟩ := wv_nat k hi (n := 0) (by omega)
  obtain ⟨hw1, hl1⟩ := wv_nat k hi (n := 1) (by omega)
  obtain ⟨hw2, hl2⟩ := wv_nat k hi (n := 2) (by omega)
  rw [← hp] at hl0 hl1 hl2
  have HQ := Lib.hid (quant_some p k i)
  obtain ⟨J, hJ⟩ : ∃ J, (fun n => wvI k i n) = J := ⟨_, rfl⟩
  have hJ' : ∀ n, wvI k i n = J n := fun n => by rw [← hJ]
  simp only [hJ'] at HW hw0 hw1 hw2
  obtain ⟨j0, e0⟩ : ∃ j, wvN k i 0 = j := ⟨_, rfl⟩
  obtain ⟨j1, e1⟩ : ∃ j, wvN k i 1 = j := ⟨_, rfl⟩
  obtain ⟨j2, e2⟩ : ∃ j, wvN k i 2 = j := ⟨_, rfl⟩
  rw [e0] at hl0 hw0
  rw [e1] at hl1 hw1
  rw [e2] at hl2 hw2
  rw [e0, e1, e2, one_at hl0, one_at hl1, one_at hl2] at HQ
  simp only [Int.ofNat_zero, Int.natCast_zero, Int.natCast_one, show ((2 : Nat) : Int) = 2 from rfl, show ((1 : Nat) : Int) = 1 from rfl] at hw0 hw1 hw2
  clear h1 h2 hp hb hst hst1 hJ hJ' e0 e1 e2
  by_cases u0 : p[j0].toNat = 49
  all_goals by_cases u1 : p[j1].toNat = 49
  all_goals by_cases u2 : p[j2].toNat = 49
  · have HV := Lib.hid (show quantB false p k i = true by rw [HQ.out, beq_iff_eq.2 u0, beq_iff_eq.2 u1, beq_iff_eq.2 u2]; rfl)
    have g0 : ((p[j0].toNat : Int) == 49) = true := by simp; omega
    have g1 : ((p[j1].toNat : Int) == 49) = true := by simp; omega
    have g2 : ((p[j2].toNat : Int) == 49) = true := by simp; omega
    clear u0 u1 u2 HQ
    go_enter Tryd.func21, Tryd.ntmps21
    go_wp2_with fail
    go_quiet (first | (go_at_call 20; exact Calls.quiet_of (HW.out _ _ (by omega) (by omega))))
    go_wp2_with fail
    go_ret
    refine ⟨?_, ⟨rfl, rfl, rfl, Nat.le_refl _, fun _ _ => rfl⟩⟩
    show _ = Ending.returned (.bool (quantB false p k i))
    rw [HV.out]
    rfl
  · have HV := Lib.hid (show quantB false p k i = true by rw [HQ.out, beq_iff_eq.2 u0, beq_iff_eq.2 u1, beq_eq_false_iff_ne.2 u2]; rfl)
    have g0 : ((p[j0].toNat : Int) == 49) = true := by simp; omega
    have g1 : ((p[j1].toNat : Int) == 49) = true := by simp; omega
    have g2 : ((p[j2].toNat : Int) == 49) = false := by simp; omega
    clear u0 u1 u2 HQ
    go_enter Tryd.func21, Tryd.ntmps21
    go_wp2_with fail
    go_quiet (first | (go_at_call 20; exact Calls.quiet_of (HW.out _ _ (by omega) (by omega))))
    go_wp2_with fail
    go_ret
    refine ⟨?_, ⟨rfl, rfl, rfl, Nat.le_refl _, fun _ _ => rfl⟩⟩
    show _ = Ending.returned (.bool (quantB false p k i))
    rw [HV.out]
    rfl
  · have HV := Lib.hid (show quantB false p k i = true by rw [HQ.out, beq_iff_eq.2 u0, beq_eq_false_iff_ne.2 u1, beq_iff_eq.2 u2]; rfl)
    have g0 : ((p[j0].toNat : Int) == 49) = true := by simp; omega
    have g1 : ((p[j1].toNat : Int) == 49) = false := by simp; omega
    have g2 : ((p[j2].toNat : Int) == 49) = true := by simp; omega
    clear u0 u1 u2 HQ
    go_enter Tryd.func21, Tryd.ntmps21
    go_wp2_with fail
    go_quiet (first | (go_at_call 20; exact Calls.quiet_of (HW.out _ _ (by omega) (by omega))))
    go_wp2_with fail
    go_ret
    refine ⟨?_, ⟨rfl, rfl, rfl, Nat.le_refl _, fun _ _ => rfl⟩⟩
    show _ = Ending.returned (.bool (quantB false p k i))
    rw [HV.out]
    rfl
  · have HV := Lib.hid (show quantB false p k i = true by rw [HQ.out, beq_iff_eq.2 u0, beq_eq_false_iff_ne.2 u1, beq_eq_false_iff_ne.2 u2]; rfl)
    have g0 : ((p[j0].toNat : Int) == 49) = true := by simp; omega
    have g1 : ((p[j1].toNat : Int) == 49) = false := by simp; omega
    have g2 : ((p[j2].toNat : Int) == 49) = false := by simp; omega
    clear u0 u1 u2 HQ
    go_enter Tryd.func21, Tryd.ntmps21
    go_wp2_with fail
    go_quiet (first | (go_at_call 20; exact Calls.quiet_of (HW.out _ _ (by omega) (by omega))))
    go_wp2_with fail
    go_ret
    refine ⟨?_, ⟨rfl, rfl, rfl, Nat.le_refl _, fun _ _ => rfl⟩⟩
    show _ = Ending.returned (.bool (quantB false p k i))
    rw [HV.out]
    rfl
  · have HV := Lib.hid (show quantB false p k i = true by rw [HQ.out, beq_eq_false_iff_ne.2 u0, beq_iff_eq.2 u1, beq_iff_eq.2 u2]; rfl)
    have g0 : ((p[j0].toNat : Int) == 49) = false := by simp; omega
    have g1 : ((p[j1].toNat : Int) == 49) = true := by simp; omega
    have g2 : ((p[j2].toNat : Int) == 49) = true := by simp; omega
    clear u0 u1 u2 HQ
    go_enter Tryd.func21, Tryd.ntmps21
    go_wp2_with fail
    go_quiet (first | (go_at_call 20; exact Calls.quiet_of (HW.out _ _ (by omega) (by omega))))
    go_wp2_with fail
    go_ret
    refine ⟨?_, ⟨rfl, rfl, rfl, Nat.le_refl _, fun _ _ => rfl⟩⟩
    show _ = Ending.returned (.bool (quantB false p k i))
    rw [HV.out]
    rfl
  · have HV := Lib.hid (show quantB false p k i = true by rw [HQ.out, beq_eq_false_iff_ne.2 u0, beq_iff_eq.2 u1, beq_eq_false_iff_ne.2 u2]; rfl)
    have g0 : ((p[j0].toNat : Int) == 49) = false := by simp; omega
    have g1 : ((p[j1].toNat : Int) == 49) = true := by simp; omega
    have g2 : ((p[j2].toNat : Int) == 49) = false := by simp; omega
    clear u0 u1 u2 HQ
    go_enter Tryd.func21, Tryd.ntmps21
    go_wp2_with fail
    go_quiet (first | (go_at_call 20; exact Calls.quiet_of (HW.out _ _ (by omega) (by omega))))
    go_wp2_with fail
    go_ret
    refine ⟨?_, ⟨rfl, rfl, rfl, Nat.le_refl _, fun _ _ => rfl⟩⟩
    show _ = Ending.returned (.bool (quantB false p k i))
    rw [HV.out]
    rfl
  · have HV := Lib.hid (show quantB false p k i = true by rw [HQ.out, beq_eq_false_iff_ne.2 u0, beq_eq_false_iff_ne.2 u1, beq_iff_eq.2 u2]; rfl)
    have g0 : ((p[j0].toNat : Int) == 49) = false := by simp; omega
    have g1 : ((p[j1].toNat : Int) == 49) = false := by simp; omega
    have g2 : ((p[j2].toNat : Int) == 49) = true := by simp; omega
    clear u0 u1 u2 HQ
    go_enter Tryd.func21, Tryd.ntmps21
    go_wp2_with fail
    go_quiet (first | (go_at_call 20; exact Calls.quiet_of (HW.out _ _ (by omega) (by omega))))
    go_wp2_with fail
    go_ret
    refine ⟨?_, ⟨rfl, rfl, rfl, Nat.le_refl _, fun _ _ => rfl⟩⟩
    show _ = Ending.returned (.bool (quantB false p k i))
    rw [HV.out]
    rfl
  · have HV := Lib.hid (show quantB false p k i = false by rw [HQ.out, beq_eq_false_iff_ne.2 u0, beq_eq_false_iff_ne.2 u1, beq_eq_false_iff_ne.2 u2]; rfl)
    have g0 : ((p[j0].toNat : Int) == 49) = false := by simp; omega
    have g1 : ((p[j1].toNat : Int) == 49) = false := by simp; omega
    have g2 : ((p[j2].toNat : Int) == 49) = false := by simp; omega
    clear u0 u1 u2 HQ
    go_enter Tryd.func21, Tryd.ntmps21
    go_wp2_with fail
    go_quiet (first | (go_at_call 20; exact Calls.quiet_of (HW.out _ _ (by omega) (by omega))))
    go_wp2_with fail
    go_ret
    refine ⟨?_, ⟨rfl, rfl, rfl, Nat.le_refl _, fun _ _ => rfl⟩⟩
    show _ = Ending.returned (.bool (quantB false p k i))
    rw [HV.out]
    rfl
theorem slot_cell (w : World) (t : TypeId) (n : Int) (k : Nat) (h : n = (k : Int)) (o : Obj) : ((w.alloc o).alloc (.cells #[.int .i64 n] t)).cell? ⟨w.heap.size + 1, 0, none⟩ = some (.int .i64 (k : Int)) := by
  subst h
  simp [World.cell?_alloc_at]
def quantV (all : Bool) (p v : ByteArray) : Option ByteArray := if bitsB p 27 = true ∧ 0 ≤ varNo v then some (mk 27 fun i => bt (quantB all p (varNo v).toNat i)) else none
def strV : Option ByteArray → Value
  | none => .tuple #[.string ⟨#[]⟩, .bool false]
  | some v => .tuple #[.string v, .bool true]
set_option maxRecDepth 100000 in
theorem specAllVar (p v : ByteArray) (w : World) (hp : p.size ≤ maxLen) : Calls Tryd.prog 6 #[.string p, .string v] w fun e w' => e = .returned (strV (quantV true p v)) ∧ Below w.heap.size w w' := by
  have HV := Lib.hid (fun w => specPredValid p w hp)
  have HN := Lib.hid (fun w => specVar v w)
  cases h : bitsB p 27 with
  | false =>
    have H := Lib.hid (show quantV true p v = none by simp [quantV, h])
    rw [h] at HV
    clear h
    go_enter Tryd.func6, Tryd.ntmps6
    go_wp2_with (go_at_call 12; refine (HV.out _).mono ?_; rintro e w1 ⟨rfl, rfl⟩)
    exact bodyPost_ret (v := .tuple #[.string ⟨#[]⟩, .bool false]) (by simp [results, Tryd.results6, go_sem]) rfl ⟨by rw [H.out]; rfl, by repeat (first | exact Below.refl _ _ | refine Below.alloc ?_ (by simp <;> omega) _)⟩
  | true =>
    rw [h] at HV
    rcases var_cases v with ⟨hv, rfl⟩ | ⟨hv, rfl⟩ | ⟨hv, rfl⟩ | ⟨hv, _, _, _⟩
    rotate_left 3
    have H := Lib.hid (show quantV true p v = none by simp [quantV, h, hv])
    rw [hv] at HN
    clear h hv
    go_enter Tryd.func6, Tryd.ntmps6
    go_wp2_with (first | (go_at_call 12; refine (HV.out _).mono ?_; rintro e w1 ⟨rfl, rfl⟩) | (go_at_call 13; refine (HN.out _).mono ?_; rintro e w2 ⟨rfl, rfl⟩))
    exact bodyPost_ret (v := .tuple #[.string ⟨#[]⟩, .bool false]) (by simp [results, Tryd.results6, go_sem]) rfl ⟨by rw [H.out]; rfl, by repeat (first | exact Below.refl _ _ | refine Below.alloc ?_ (by simp <;> omega) _)⟩
    have H := Lib.hid (show quantV true p ⟨#[120]⟩ = some (mk 27 fun i => bt (quantB true p 0 i)) by simp [quantV, h, hv])
    rw [hv] at HN
    have HQ := Lib.hid (fun w => specQuant0 true p w h)
    obtain ⟨s, hs⟩ : ∃ s, (mk 27 fun i => bt (quantB true p 0 i)) = s := ⟨_, rfl⟩
    rw [hs] at H HQ
    clear h hv hs
    go_enter Tryd.func6, Tryd.ntmps6
    go_wp2_with (first | (go_at_call 12; refine (HV.out _).mono ?_; rintro e w1 ⟨rfl, rfl⟩) | (go_at_call 13; refine (HN.out _).mono ?_; rintro e w2 ⟨rfl, rfl⟩) | (go_at_call 14; refine (HQ.out _).mono ?_; rintro e w3 ⟨rfl, hb3⟩))
    exact bodyPost_ret (v := .tuple #[.string s, .bool true]) (by simp [results, Tryd.results6, go_sem]) rfl ⟨by rw [H.out]; rfl, hb3⟩
    have H := Lib.hid (show quantV true p ⟨#[121]⟩ = some (mk 27 fun i => bt (quantB true p 1 i)) by simp [quantV, h, hv])
    rw [hv] at HN
    have HQ := Lib.hid (fun w => specQuant1 true p w h)
    obtain ⟨s, hs⟩ : ∃ s, (mk 27 fun i => bt (quantB true p 1 i)) = s := ⟨_, rfl⟩
    rw [hs] at H HQ
    clear h hv hs
    go_enter Tryd.func6, Tryd.ntmps6
    go_wp2_with (first | (go_at_call 12; refine (HV.out _).mono ?_; rintro e w1 ⟨rfl, rfl⟩) | (go_at_call 13; refine (HN.out _).mono ?_; rintro e w2 ⟨rfl, rfl⟩) | (go_at_call 14; refine (HQ.out _).mono ?_; rintro e w3 ⟨rfl, hb3⟩))
    exact bodyPost_ret (v := .tuple #[.string s, .bool true]) (by simp [results, Tryd.results6, go_sem]) rfl ⟨by rw [H.out]; rfl, hb3⟩
    have H := Lib.hid (show quantV true p ⟨#[122]⟩ = some (mk 27 fun i => bt (quantB true p 2 i)) by simp [quantV, h, hv])
    rw [hv] at HN
    have HQ := Lib.hid (fun w => specQuant2 true p w h)
    obtain ⟨s, hs⟩ : ∃ s, (mk 27 fun i => bt (quantB true p 2 i)) = s := ⟨_, rfl⟩
    rw [hs] at H HQ
    clear h hv hs
    go_enter Tryd.func6, Tryd.ntmps6
    go_wp2_with (first | (go_at_call 12; refine (HV.out _).mono ?_; rintro e w1 ⟨rfl, rfl⟩) | (go_at_call 13; refine (HN.out _).mono ?_; rintro e w2 ⟨rfl, rfl⟩) | (go_at_call 14; refine (HQ.out _).mono ?_; rintro e w3 ⟨rfl, hb3⟩))
    exact bodyPost_ret (v := .tuple #[.string s, .bool true]) (by simp [results, Tryd.results6, go_sem]) rfl ⟨by rw [H.out]; rfl, hb3⟩
set_option maxRecDepth 100000 in
theorem implAllVar (p v : ByteArray) (w : World) (hp : p.size ≤ maxLen) (hst : strideAt w) : Calls Tryd.prog 7 #[.string p, .string v] w fun e w' => e = .returned (strV (quantV true p v)) ∧ Below w.heap.size w w' := by
  have HV := Lib.hid (fun w => implPredValid p w hp)
  have HN := Lib.hid (fun w => implIsVar v w)
  cases h : bitsB p 27 with
  | false =>
    have H := Lib.hid (show quantV true p v = none by simp [quantV, h])
    rw [h] at HV
    clear h hst
    go_enter Tryd.func7, Tryd.ntmps7
    go_wp2_with (go_at_call 15; refine (HV.out _).mono ?_; rintro e w1 ⟨rfl, rfl⟩)
    exact bodyPost_ret (v := .tuple #[.string ⟨#[]⟩, .bool false]) (by simp [results, Tryd.results7, go_sem]) rfl ⟨by rw [H.out]; rfl, by repeat (first | exact Below.refl _ _ | refine Below.alloc ?_ (by simp <;> omega) _)⟩
  | true =>
    rw [h] at HV
    rcases var_cases v with ⟨hv, rfl⟩ | ⟨hv, rfl⟩ | ⟨hv, rfl⟩ | ⟨hv, _, _, _⟩
    rotate_left 3
    have H := Lib.hid (show quantV true p v = none by simp [quantV, h, hv])
    rw [hv] at HN
    clear h hv hst
    go_enter Tryd.func7, Tryd.ntmps7
    go_wp2_with (first | (go_at_call 15; refine (HV.out _).mono ?_; rintro e w1 ⟨rfl, rfl⟩) | (go_at_call 16; refine (HN.out _).mono ?_; rintro e w2 ⟨rfl, rfl⟩))
    exact bodyPost_ret (v := .tuple #[.string ⟨#[]⟩, .bool false]) (by simp [results, Tryd.results7, go_sem]) rfl ⟨by rw [H.out]; rfl, by repeat (first | exact Below.refl _ _ | refine Below.alloc ?_ (by simp <;> omega) _)⟩
    have H := Lib.hid (show quantV true p ⟨#[120]⟩ = some (mk 27 fun i => bt (quantB true p 0 i)) by simp [quantV, h, hv])
    rw [hv] at HN
    have hs7 : p.size = 27 := by have := bits_size h; omega
    have HX := Lib.hid hst
    have HS7 := Lib.hid hs7
    clear h hv hs7 hst
    go_enter Tryd.func7, Tryd.ntmps7
    go_wp2_with (first | (go_at_call 15; refine (HV.out _).mono ?_; rintro e w1 ⟨rfl, rfl⟩) | (go_at_call 16; refine (HN.out _).mono ?_; rintro e w2 ⟨rfl, rfl⟩) | (go_at_call 18; refine (makeSet 19 #[.pointer (some ⟨w.heap.size, 0, none⟩), .pointer (some ⟨w.heap.size + 1, 0, none⟩)] (fun i => quantB true p 0 i) _ (fun _ _ => by simp [go_sem]) (tells_AllVar 0 p _ w.heap.size (w.heap.size + 1) (by simp [World.cell?_alloc_at]) (slot_cell _ _ _ 0 (by decide) _) (by omega) HS7.out (stride_below HX.out (by repeat (first | exact Below.refl _ _ | refine Below.alloc ?_ (by simp <;> omega) _))))).mono ?_; rintro e w3 ⟨rfl, hb3⟩) | (go_at_call 17; go_in))
    have hb4 : Below w.heap.size w w3 := Below.trans (by repeat (first | exact Below.refl _ _ | refine Below.alloc ?_ (by simp <;> omega) _)) (hb3.mono (by simp <;> omega))
    exact bodyPost_ret (v := .tuple #[.string (mk 27 fun i => bt (quantB true p 0 i)), .bool true]) (by simp [results, Tryd.results7, go_sem]) rfl ⟨by rw [H.out]; rfl, hb4⟩
    have H := Lib.hid (show quantV true p ⟨#[121]⟩ = some (mk 27 fun i => bt (quantB true p 1 i)) by simp [quantV, h, hv])
    rw [hv] at HN
    have hs7 : p.size = 27 := by have := bits_size h; omega
    have HX := Lib.hid hst
    have HS7 := Lib.hid hs7
    clear h hv hs7 hst
    go_enter Tryd.func7, Tryd.ntmps7
    go_wp2_with (first | (go_at_call 15; refine (HV.out _).mono ?_; rintro e w1 ⟨rfl, rfl⟩) | (go_at_call 16; refine (HN.out _).mono ?_; rintro e w2 ⟨rfl, rfl⟩) | (go_at_call 18; refine (makeSet 19 #[.pointer (some ⟨w.heap.size, 0, none⟩), .pointer (some ⟨w.heap.size + 1, 0, none⟩)] (fun i => quantB true p 1 i) _ (fun _ _ => by simp [go_sem]) (tells_AllVar 1 p _ w.heap.size (w.heap.size + 1) (by simp [World.cell?_alloc_at]) (slot_cell _ _ _ 1 (by decide) _) (by omega) HS7.out (stride_below HX.out (by repeat (first | exact Below.refl _ _ | refine Below.alloc ?_ (by simp <;> omega) _))))).mono ?_; rintro e w3 ⟨rfl, hb3⟩) | (go_at_call 17; go_in))
    have hb4 : Below w.heap.size w w3 := Below.trans (by repeat (first | exact Below.refl _ _ | refine Below.alloc ?_ (by simp <;> omega) _)) (hb3.mono (by simp <;> omega))
    exact bodyPost_ret (v := .tuple #[.string (mk 27 fun i => bt (quantB true p 1 i)), .bool true]) (by simp [results, Tryd.results7, go_sem]) rfl ⟨by rw [H.out]; rfl, hb4⟩
    have H := Lib.hid (show quantV true p ⟨#[122]⟩ = some (mk 27 fun i => bt (quantB true p 2 i)) by simp [quantV, h, hv])
    rw [hv] at HN
    have hs7 : p.size = 27 := by have := bits_size h; omega
    have HX := Lib.hid hst
    have HS7 := Lib.hid hs7
    clear h hv hs7 hst
    go_enter Tryd.func7, Tryd.ntmps7
    go_wp2_with (first | (go_at_call 15; refine (HV.out _).mono ?_; rintro e w1 ⟨rfl, rfl⟩) | (go_at_call 16; refine (HN.out _).mono ?_; rintro e w2 ⟨rfl, rfl⟩) | (go_at_call 18; refine (makeSet 19 #[.pointer (some ⟨w.heap.size, 0, none⟩), .pointer (some ⟨w.heap.size + 1, 0, none⟩)] (fun i => quantB true p 2 i) _ (fun _ _ => by simp [go_sem]) (tells_AllVar 2 p _ w.heap.size (w.heap.size + 1) (by simp [World.cell?_alloc_at]) (slot_cell _ _ _ 2 (by decide) _) (by omega) HS7.out (stride_below HX.out (by repeat (first | exact Below.refl _ _ | refine Below.alloc ?_ (by simp <;> omega) _))))).mono ?_; rintro e w3 ⟨rfl, hb3⟩) | (go_at_call 17; go_in))
    have hb4 : Below w.heap.size w w3 := Below.trans (by repeat (first | exact Below.refl _ _ | refine Below.alloc ?_ (by simp <;> omega) _)) (hb3.mono (by simp <;> omega))
    exact bodyPost_ret (v := .tuple #[.string (mk 27 fun i => bt (quantB true p 2 i)), .bool true]) (by simp [results, Tryd.results7, go_sem]) rfl ⟨by rw [H.out]; rfl, hb4⟩
set_option maxRecDepth 100000 in
theorem specSomeVar (p v : ByteArray) (w : World) (hp : p.size ≤ maxLen) : Calls Tryd.prog 8 #[.string p, .string v] w fun e w' => e = .returned (strV (quantV false p v)) ∧ Below w.heap.size w w' := by
  have HV := Lib.hid (fun w => specPredValid p w hp)
  have HN := Lib.hid (fun w => specVar v w)
  cases h : bitsB p 27 with
  | false =>
    have H := Lib.hid (show quantV false p v = none by simp [quantV, h])
    rw [h] at HV
    clear h
    go_enter Tryd.func8, Tryd.ntmps8
    go_wp2_with (go_at_call 12; refine (HV.out _).mono ?_; rintro e w1 ⟨rfl, rfl⟩)
    exact bodyPost_ret (v := .tuple #[.string ⟨#[]⟩, .bool false]) (by simp [results, Tryd.results8, go_sem]) rfl ⟨by rw [H.out]; rfl, by repeat (first | exact Below.refl _ _ | refine Below.alloc ?_ (by simp <;> omega) _)⟩
  | true =>
    rw [h] at HV
    rcases var_cases v with ⟨hv, rfl⟩ | ⟨hv, rfl⟩ | ⟨hv, rfl⟩ | ⟨hv, _, _, _⟩
    rotate_left 3
    have H := Lib.hid (show quantV false p v = none by simp [quantV, h, hv])
    rw [hv] at HN
    clear h hv
    go_enter Tryd.func8, Tryd.ntmps8
    go_wp2_with (first | (go_at_call 12; refine (HV.out _).mono ?_; rintro e w1 ⟨rfl, rfl⟩) | (go_at_call 13; refine (HN.out _).mono ?_; rintro e w2 ⟨rfl, rfl⟩))
    exact bodyPost_ret (v := .tuple #[.string ⟨#[]⟩, .bool false]) (by simp [results, Tryd.results8, go_sem]) rfl ⟨by rw [H.out]; rfl, by repeat (first | exact Below.refl _ _ | refine Below.alloc ?_ (by simp <;> omega) _)⟩
    have H := Lib.hid (show quantV false p ⟨#[120]⟩ = some (mk 27 fun i => bt (quantB false p 0 i)) by simp [quantV, h, hv])
    rw [hv] at HN
    have HQ := Lib.hid (fun w => specQuant0 false p w h)
    obtain ⟨s, hs⟩ : ∃ s, (mk 27 fun i => bt (quantB false p 0 i)) = s := ⟨_, rfl⟩
    rw [hs] at H HQ
    clear h hv hs
    go_enter Tryd.func8, Tryd.ntmps8
    go_wp2_with (first | (go_at_call 12; refine (HV.out _).mono ?_; rintro e w1 ⟨rfl, rfl⟩) | (go_at_call 13; refine (HN.out _).mono ?_; rintro e w2 ⟨rfl, rfl⟩) | (go_at_call 14; refine (HQ.out _).mono ?_; rintro e w3 ⟨rfl, hb3⟩))
    exact bodyPost_ret (v := .tuple #[.string s, .bool true]) (by simp [results, Tryd.results8, go_sem]) rfl ⟨by rw [H.out]; rfl, hb3⟩
    have H := Lib.hid (show quantV false p ⟨#[121]⟩ = some (mk 27 fun i => bt (quantB false p 1 i)) by simp [quantV, h, hv])
    rw [hv] at HN
    have HQ := Lib.hid (fun w => specQuant1 false p w h)
    obtain ⟨s, hs⟩ : ∃ s, (mk 27 fun i => bt (quantB false p 1 i)) = s := ⟨_, rfl⟩
    rw [hs] at H HQ
    clear h hv hs
    go_enter Tryd.func8, Tryd.ntmps8
    go_wp2_with (first | (go_at_call 12; refine (HV.out _).mono ?_; rintro e w1 ⟨rfl, rfl⟩) | (go_at_call 13; refine (HN.out _).mono ?_; rintro e w2 ⟨rfl, rfl⟩) | (go_at_call 14; refine (HQ.out _).mono ?_; rintro e w3 ⟨rfl, hb3⟩))
    exact bodyPost_ret (v := .tuple #[.string s, .bool true]) (by simp [results, Tryd.results8, go_sem]) rfl ⟨by rw [H.out]; rfl, hb3⟩
    have H := Lib.hid (show quantV false p ⟨#[122]⟩ = some (mk 27 fun i => bt (quantB false p 2 i)) by simp [quantV, h, hv])
    rw [hv] at HN
    have HQ := Lib.hid (fun w => specQuant2 false p w h)
    obtain ⟨s, hs⟩ : ∃ s, (mk 27 fun i => bt (quantB false p 2 i)) = s := ⟨_, rfl⟩
    rw [hs] at H HQ
    clear h hv hs
    go_enter Tryd.func8, Tryd.ntmps8
    go_wp2_with (first | (go_at_call 12; refine (HV.out _).mono ?_; rintro e w1 ⟨rfl, rfl⟩) | (go_at_call 13; refine (HN.out _).mono ?_; rintro e w2 ⟨rfl, rfl⟩) | (go_at_call 14; refine (HQ.out _).mono ?_; rintro e w3 ⟨rfl, hb3⟩))
    exact bodyPost_ret (v := .tuple #[.string s, .bool true]) (by simp [results, Tryd.results8, go_sem]) rfl ⟨by rw [H.out]; rfl, hb3⟩
set_option maxRecDepth 100000 in
theorem implSomeVar (p v : ByteArray) (w : World) (hp : p.size ≤ maxLen) (hst : strideAt w) : Calls Tryd.prog 9 #[.string p, .string v] w fun e w' => e = .returned (strV (quantV false p v)) ∧ Below w.heap.size w w' := by
  have HV := Lib.hid (fun w => implPredValid p w hp)
  have HN := Lib.hid (fun w => implIsVar v w)
  cases h : bitsB p 27 with
  | false =>
    have H := Lib.hid (show quantV false p v = none by simp [quantV, h])
    rw [h] at HV
    clear h hst
    go_enter Tryd.func9, Tryd.ntmps9
    go_wp2_with (go_at_call 15; refine (HV.out _).mono ?_; rintro e w1 ⟨rfl, rfl⟩)
    exact bodyPost_ret (v := .tuple #[.string ⟨#[]⟩, .bool false]) (by simp [results, Tryd.results9, go_sem]) rfl ⟨by rw [H.out]; rfl, by repeat (first | exact Below.refl _ _ | refine Below.alloc ?_ (by simp <;> omega) _)⟩
  | true =>
    rw [h] at HV
    rcases var_cases v with ⟨hv, rfl⟩ | ⟨hv, rfl⟩ | ⟨hv, rfl⟩ | ⟨hv, _, _, _⟩
    rotate_left 3
    have H := Lib.hid (show quantV false p v = none by simp [quantV, h, hv])
    rw [hv] at HN
    clear h hv hst
    go_enter Tryd.func9, Tryd.ntmps9
    go_wp2_with (first | (go_at_call 15; refine (HV.out _).mono ?_; rintro e w1 ⟨rfl, rfl⟩) | (go_at_call 16; refine (HN.out _).mono ?_; rintro e w2 ⟨rfl, rfl⟩))
    exact bodyPost_ret (v := .tuple #[.string ⟨#[]⟩, .bool false]) (by simp [results, Tryd.results9, go_sem]) rfl ⟨by rw [H.out]; rfl, by repeat (first | exact Below.refl _ _ | refine Below.alloc ?_ (by simp <;> omega) _)⟩
    have H := Lib.hid (show quantV false p ⟨#[120]⟩ = some (mk 27 fun i => bt (quantB false p 0 i)) by simp [quantV, h, hv])
    rw [hv] at HN
    have hs7 : p.size = 27 := by have := bits_size h; omega
    have HX := Lib.hid hst
    have HS7 := Lib.hid hs7
    clear h hv hs7 hst
    go_enter Tryd.func9, Tryd.ntmps9
    go_wp2_with (first | (go_at_call 15; refine (HV.out _).mono ?_; rintro e w1 ⟨rfl, rfl⟩) | (go_at_call 16; refine (HN.out _).mono ?_; rintro e w2 ⟨rfl, rfl⟩) | (go_at_call 18; refine (makeSet 21 #[.pointer (some ⟨w.heap.size, 0, none⟩), .pointer (some ⟨w.heap.size + 1, 0, none⟩)] (fun i => quantB false p 0 i) _ (fun _ _ => by simp [go_sem]) (tells_SomeVar 0 p _ w.heap.size (w.heap.size + 1) (by simp [World.cell?_alloc_at]) (slot_cell _ _ _ 0 (by decide) _) (by omega) HS7.out (stride_below HX.out (by repeat (first | exact Below.refl _ _ | refine Below.alloc ?_ (by simp <;> omega) _))))).mono ?_; rintro e w3 ⟨rfl, hb3⟩) | (go_at_call 17; go_in))
    have hb4 : Below w.heap.size w w3 := Below.trans (by repeat (first | exact Below.refl _ _ | refine Below.alloc ?_ (by simp <;> omega) _)) (hb3.mono (by simp <;> omega))
    exact bodyPost_ret (v := .tuple #[.string (mk 27 fun i => bt (quantB false p 0 i)), .bool true]) (by simp [results, Tryd.results9, go_sem]) rfl ⟨by rw [H.out]; rfl, hb4⟩
    have H := Lib.hid (show quantV false p ⟨#[121]⟩ = some (mk 27 fun i => bt (quantB false p 1 i)) by simp [quantV, h, hv])
    rw [hv] at HN
    have hs7 : p.size = 27 := by have := bits_size h; omega
    have HX := Lib.hid hst
    have HS7 := Lib.hid hs7
    clear h hv hs7 hst
    go_enter Tryd.func9, Tryd.ntmps9
    go_wp2_with (first | (go_at_call 15; refine (HV.out _).mono ?_; rintro e w1 ⟨rfl, rfl⟩) | (go_at_call 16; refine (HN.out _).mono ?_; rintro e w2 ⟨rfl, rfl⟩) | (go_at_call 18; refine (makeSet 21 #[.pointer (some ⟨w.heap.size, 0, none⟩), .pointer (some ⟨w.heap.size + 1, 0, none⟩)] (fun i => quantB false p 1 i) _ (fun _ _ => by simp [go_sem]) (tells_SomeVar 1 p _ w.heap.size (w.heap.size + 1) (by simp [World.cell?_alloc_at]) (slot_cell _ _ _ 1 (by decide) _) (by omega) HS7.out (stride_below HX.out (by repeat (first | exact Below.refl _ _ | refine Below.alloc ?_ (by simp <;> omega) _))))).mono ?_; rintro e w3 ⟨rfl, hb3⟩) | (go_at_call 17; go_in))
    have hb4 : Below w.heap.size w w3 := Below.trans (by repeat (first | exact Below.refl _ _ | refine Below.alloc ?_ (by simp <;> omega) _)) (hb3.mono (by simp <;> omega))
    exact bodyPost_ret (v := .tuple #[.string (mk 27 fun i => bt (quantB false p 1 i)), .bool true]) (by simp [results, Tryd.results9, go_sem]) rfl ⟨by rw [H.out]; rfl, hb4⟩
    have H := Lib.hid (show quantV false p ⟨#[122]⟩ = some (mk 27 fun i => bt (quantB false p 2 i)) by simp [quantV, h, hv])
    rw [hv] at HN
    have hs7 : p.size = 27 := by have := bits_size h; omega
    have HX := Lib.hid hst
    have HS7 := Lib.hid hs7
    clear h hv hs7 hst
    go_enter Tryd.func9, Tryd.ntmps9
    go_wp2_with (first | (go_at_call 15; refine (HV.out _).mono ?_; rintro e w1 ⟨rfl, rfl⟩) | (go_at_call 16; refine (HN.out _).mono ?_; rintro e w2 ⟨rfl, rfl⟩) | (go_at_call 18; refine (makeSet 21 #[.pointer (some ⟨w.heap.size, 0, none⟩), .pointer (some ⟨w.heap.size + 1, 0, none⟩)] (fun i => quantB false p 2 i) _ (fun _ _ => by simp [go_sem]) (tells_SomeVar 2 p _ w.heap.size (w.heap.size + 1) (by simp [World.cell?_alloc_at]) (slot_cell _ _ _ 2 (by decide) _) (by omega) HS7.out (stride_below HX.out (by repeat (first | exact Below.refl _ _ | refine Below.alloc ?_ (by simp <;> omega) _))))).mono ?_; rintro e w3 ⟨rfl, hb3⟩) | (go_at_call 17; go_in))
    have hb4 : Below w.heap.size w w3 := Below.trans (by repeat (first | exact Below.refl _ _ | refine Below.alloc ?_ (by simp <;> omega) _)) (hb3.mono (by simp <;> omega))
    exact bodyPost_ret (v := .tuple #[.string (mk 27 fun i => bt (quantB false p 2 i)), .bool true]) (by simp [results, Tryd.results9, go_sem]) rfl ⟨by rw [H.out]; rfl, hb4⟩
theorem lawAllVar (p v : ByteArray) (w : World) (hp : p.size ≤ maxLen) (hv : v.size ≤ maxLen) (hst : strideAt w) :
    Calls Tryd.prog 3 #[.string p, .string v] w fun e w' => e = .returned (.bool true) ∧ Below w.heap.size w w' := by
  by_cases bigp : p.size ≤ 1048576
  case neg =>
    clear hst
    go_enter Tryd.func3, Tryd.ntmps3
    go_wp2
    go_ret
    exact ⟨rfl, Below.refl _ _⟩
  by_cases bigv : v.size ≤ 1048576
  case neg =>
    clear hst
    go_enter Tryd.func3, Tryd.ntmps3
    go_wp2
    go_ret
    exact ⟨rfl, Below.refl _ _⟩
  have HS := Lib.hid (fun w => specAllVar p v w hp)
  have HI := Lib.hid (fun w (h : strideAt w) => implAllVar p v w hp h)
  have HX := Lib.hid hst
  clear hst
  cases hr : quantV true p v
  all_goals
    rw [hr] at HS HI
    clear hr
    simp only [strV] at HS HI
    go_enter Tryd.func3, Tryd.ntmps3
    go_wp2_with (first | (go_at_call 6; refine (HS.out _).mono ?_; rintro e w1 ⟨rfl, hb1⟩) | (go_at_call 7; refine (HI.out _ (stride_below HX.out hb1)).mono ?_; rintro e w2 ⟨rfl, hb2⟩))
    go_ret
    exact ⟨by simp, hb1.trans (hb2.mono hb1.size)⟩
theorem lawSomeVar (p v : ByteArray) (w : World) (hp : p.size ≤ maxLen) (hv : v.size ≤ maxLen) (hst : strideAt w) :
    Calls Tryd.prog 4 #[.string p, .string v] w fun e w' => e = .returned (.bool true) ∧ Below w.heap.size w w' := by
  by_cases bigp : p.size ≤ 1048576
  case neg =>
    clear hst
    go_enter Tryd.func4, Tryd.ntmps4
    go_wp2
    go_ret
    exact ⟨rfl, Below.refl _ _⟩
  by_cases bigv : v.size ≤ 1048576
  case neg =>
    clear hst
    go_enter Tryd.func4, Tryd.ntmps4
    go_wp2
    go_ret
    exact ⟨rfl, Below.refl _ _⟩
  have HS := Lib.hid (fun w => specSomeVar p v w hp)
  have HI := Lib.hid (fun w (h : strideAt w) => implSomeVar p v w hp h)
  have HX := Lib.hid hst
  clear hst
  cases hr : quantV false p v
  all_goals
    rw [hr] at HS HI
    clear hr
    simp only [strV] at HS HI
    go_enter Tryd.func4, Tryd.ntmps4
    go_wp2_with (first | (go_at_call 8; refine (HS.out _).mono ?_; rintro e w1 ⟨rfl, hb1⟩) | (go_at_call 9; refine (HI.out _ (stride_below HX.out hb1)).mono ?_; rintro e w2 ⟨rfl, hb2⟩))
    go_ret
    exact ⟨by simp, hb1.trans (hb2.mono hb1.size)⟩
end Go.Proofs.YtdmfcbjjnjpniaaDoor.Qu
