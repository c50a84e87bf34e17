/- Contracts: a digit's text; a state's text, and the state of a text. -/
import Derived.Test.YtaimlfhbcgocnaaNum
import Derived.Laws.BytesArg
import Derived.Lib.QuietBelow
namespace Go.Proofs.Ytaimlfhbcgocnaa.Nu
open Go.RowKit Go.Sort Go.Proofs.Ytaimlfhbcgocnaa.Ro Go.Proofs.Ytaimlfhbcgocnaa.Bi Go.Proofs.Ytaimlfhbcgocnaa.St Go.Proofs.Ytaimlfhbcgocnaa.Se

theorem conv1 (W0 : World) (a : Int) (n c : Nat) (hn : n = W0.heap.size) :
    (convert 22 9 (.slice (some ⟨n, 0, none⟩) 1 c)).run Try.prog (W0.alloc (.cells #[.int .u8 a] 5)) = .ok (.string (strOfNums [a])) (W0.alloc (.cells #[.int .u8 a] 5)) := by
  subst hn
  refine run_convert_bytes_arg _ 22 5 Try.underlying22 Try.underlying5 W0.heap.size 0 1 c [a] rfl ?_ 9 Try.underlying9
  intro i hi
  match i, hi with
  | 0, _ => simp [World.cell?_alloc_at]
theorem conv3 (W0 : World) (a b d : Int) (n c : Nat) (hn : n = W0.heap.size) :
    (convert 22 9 (.slice (some ⟨n, 0, none⟩) 3 c)).run Try.prog (W0.alloc (.cells #[.int .u8 a, .int .u8 b, .int .u8 d] 5)) = .ok (.string (strOfNums [a, b, d])) (W0.alloc (.cells #[.int .u8 a, .int .u8 b, .int .u8 d] 5)) := by
  subst hn
  refine run_convert_bytes_arg _ 22 5 Try.underlying22 Try.underlying5 W0.heap.size 0 3 c [a, b, d] rfl ?_ 9 Try.underlying9
  intro i hi
  match i, hi with
  | 0, _ => simp [World.cell?_alloc_at]
  | 1, _ => simp [World.cell?_alloc_at]
  | 2, _ => simp [World.cell?_alloc_at]
theorem str_append (a b : List Int) : strOfNums a ++ strOfNums b = strOfNums (a ++ b) := by
  have h : ∀ l : List Int, strOfNums l = ByteArray.mk (l.map fun n => UInt8.ofNat n.toNat).toArray := fun _ => rfl
  rw [h, h, h, ByteArray.mk_append_mk, List.map_append]
theorem str_empty_append (a : ByteArray) : a ++ ByteArray.mk #[] = a := ByteArray.append_empty

def fmtB (x y z : Int) : ByteArray := strOfNums [48 + x, 48 + y, 48 + z]

theorem implFormat (x y z : Int) (w : World) (h : stB x y z = true) :
    Calls Try.prog 7 #[.agg #[.int .i64 x, .int .i64 y, .int .i64 z]] w fun e w' => e = .returned (.string (fmtB x y z)) ∧ Below w.heap.size w w' := by
  have H := Lib.hid h
  obtain ⟨_, _, _, _, _, _⟩ := of_stB h
  clear h
  have hcv := conv3
  go_enter Try.func7, Try.ntmps7
  go_wp2_with (go_at_call 10; refine (implStateValid _ _ _ _).mono ?_; rintro e w' ⟨rfl, rfl⟩; rw [H.out])
  go_ret
  exact ⟨rfl, by repeat (first | exact Below.refl _ _ | refine Below.alloc ?_ (by simp <;> omega) _)⟩
theorem implFormatNot (x y z : Int) (w : World) (h : stB x y z = false) :
    Calls Try.prog 7 #[.agg #[.int .i64 x, .int .i64 y, .int .i64 z]] w fun e w' => e = .returned (.string ⟨#[]⟩) ∧ Below w.heap.size w w' := by
  have H := Lib.hid h
  clear h
  go_enter Try.func7, Try.ntmps7
  go_wp2_with (go_at_call 10; refine (implStateValid _ _ _ _).mono ?_; rintro e w' ⟨rfl, rfl⟩; rw [H.out])
  go_ret
  exact ⟨rfl, by repeat (first | exact Below.refl _ _ | refine Below.alloc ?_ (by simp <;> omega) _)⟩
/-- A digit's text. -/
theorem specDec (n : Int) (w : World) (h0 : 0 ≤ n) (h9 : n ≤ 9) :
    Calls Try.prog 33 #[.int .i64 n] w fun e w' => e = .returned (.string (strOfNums [48 + n])) ∧ Below w.heap.size w w' := by
  have hcv := conv1
  go_enter Try.func33, Try.ntmps33
  go_wp2_with fail
  refine wp_loop_rounds 1 ?_
  rw [rounds_succ]
  go_wp2_with fail
  go_ret
  exact ⟨by simp [str_empty_append], by repeat (first | exact Below.refl _ _ | refine Below.alloc ?_ (by simp <;> omega) _)⟩
/-- MARK -/
theorem cells3 (w : World) (t : TypeId) (x y z : Int) (p : Regrown) :
    let W := grow (redrawn (box w t x y z) p.d) p.os
    (W.cell? ⟨w.heap.size, 0, none⟩ = some (.int .i64 x) ∧ W.cell? ⟨w.heap.size, 1, none⟩ = some (.int .i64 y) ∧ W.cell? ⟨w.heap.size, 2, none⟩ = some (.int .i64 z)) := by
  refine ⟨?_, ?_, ?_⟩ <;> refine cell_regrown ?_ _ _ <;> simp [World.cell?_alloc_at]
theorem specShow (x y z : Int) (w : World) (h : stB x y z = true) :
    Calls Try.prog 21 #[.agg #[.int .i64 x, .int .i64 y, .int .i64 z]] w fun e w' => e = .returned (.string (fmtB x y z)) ∧ Below w.heap.size w w' := by
  obtain ⟨_, _, _, _, _, _⟩ := of_stB h
  clear h
  have hc := cells3 w 24 x y z
  have n1 : ¬ 9223372036854775807 < (strOfNums [48 + x]).size + (strOfNums [48 + y]).size := by simp [strOfNums_size]
  have n2 : ¬ 9223372036854775807 < (strOfNums [48 + x]).size + (strOfNums [48 + y]).size + (strOfNums [48 + z]).size := by simp [strOfNums_size]
  go_enter Try.func21, Try.ntmps21
  go_wp2
  refine wp_region_quiet_below (by kernel_rfl) (by kernel_rfl) ?_
  repeat (go_big_quiet_step ((go_at_call 33; exact Calls.regrown_of (specDec _ _ (by omega) (by omega)))))
  refine wpQuiet_nil ?_
  intro _ hw'
  obtain ⟨⟨dq, osq⟩, hw''⟩ := hw'
  subst hw''
  go_wp2
  go_ret
  exact ⟨by simp [str_append, fmtB], Below.trans (by repeat (first | exact Below.refl _ _ | refine Below.alloc ?_ (by simp <;> omega) _)) (Below.mono (below_regrown _ _ _) (by simp <;> omega))⟩
theorem specFormat (x y z : Int) (w : World) (h : stB x y z = true) :
    Calls Try.prog 9 #[.agg #[.int .i64 x, .int .i64 y, .int .i64 z]] w fun e w' => e = .returned (.string (fmtB x y z)) ∧ Below w.heap.size w w' := by
  have H := Lib.hid h
  clear h
  go_enter Try.func9, Try.ntmps9
  go_wp2_with (first
    | (go_at_call 19; refine (specStateValid _ _ _ _).mono ?_; rintro e w' ⟨rfl, rfl⟩; rw [H.out])
    | (go_at_call 21; refine (specShow _ _ _ _ H.out).mono ?_; rintro e w' ⟨rfl, hb⟩))
  go_ret
  exact ⟨rfl, Below.trans (by repeat (first | exact Below.refl _ _ | refine Below.alloc ?_ (by simp <;> omega) _)) (Below.mono hb (by simp <;> omega))⟩
theorem specFormatNot (x y z : Int) (w : World) (h : stB x y z = false) :
    Calls Try.prog 9 #[.agg #[.int .i64 x, .int .i64 y, .int .i64 z]] w fun e w' => e = .returned (.string ⟨#[]⟩) ∧ Below w.heap.size w w' := by
  have H := Lib.hid h
  clear h
  go_enter Try.func9, Try.ntmps9
  go_wp2_with (go_at_call 19; refine (specStateValid _ _ _ _).mono ?_; rintro e w' ⟨rfl, rfl⟩; rw [H.out])
  go_ret
  exact ⟨rfl, by repeat (first | exact Below.refl _ _ | refine Below.alloc ?_ (by simp <;> omega) _)⟩
/-- The text of the state with a number. -/
def fm (i : Nat) : ByteArray := fmtB (sx i) (sy i) (sz i)
theorem fm_eq (i : Nat) : fmtB (sx (i : Int)) (sy (i : Int)) (sz (i : Int)) = fm i := rfl
def findT (t : ByteArray) : Option Nat := (List.range 27).find? fun i => (fm i).toList == t.toList
theorem find_some {t : ByteArray} {m : Nat} (h : findT t = some m) : m < 27 ∧ ((fm m).toList == t.toList) = true ∧ ∀ j, j < m → ((fm j).toList == t.toList) = false := by
  unfold findT at h
  rw [List.find?_range_eq_some] at h
  obtain ⟨h1, h2, h3⟩ := h
  exact ⟨by simpa using h2, h1, fun j hj => by simpa using h3 j hj⟩
theorem find_none {t : ByteArray} (h : findT t = none) : ∀ j, j < 27 → ((fm j).toList == t.toList) = false := by
  unfold findT at h
  rw [List.find?_eq_none] at h
  intro j hj
  simpa using h j (by simpa using hj)
theorem zero_cells {w wr : World} {t : TypeId} (hb : Below (w.heap.size + 1) (w.alloc (.cells #[.int .i64 0, .int .i64 0, .int .i64 0] t)) wr) :
    (wr.cell? ⟨w.heap.size, 0, none⟩ = some (.int .i64 0) ∧ wr.cell? ⟨w.heap.size, 1, none⟩ = some (.int .i64 0) ∧ wr.cell? ⟨w.heap.size, 2, none⟩ = some (.int .i64 0)) ∧
    (wr.frozen? ⟨w.heap.size, 0, none⟩ = false ∧ wr.frozen? ⟨w.heap.size, 1, none⟩ = false ∧ wr.frozen? ⟨w.heap.size, 2, none⟩ = false) := by
  refine ⟨⟨?_, ?_, ?_⟩, ⟨?_, ?_, ?_⟩⟩
  all_goals first
    | (rw [hb.cell (by simp)]; simp [World.cell?_alloc_at])
    | (rw [hb.frozen (by simp)]; simp [World.frozen?_alloc_at])
theorem step_facts {w wr w1 : World} {t : TypeId} {o : Obj} (hbr : Below (w.heap.size + 1) (w.alloc (.cells #[.int .i64 0, .int .i64 0, .int .i64 0] t)) wr) (hb1 : Below (wr.alloc o).heap.size (wr.alloc o) w1) :
    Below (w.heap.size + 1) (w.alloc (.cells #[.int .i64 0, .int .i64 0, .int .i64 0] t)) w1 ∧
    (w1.cell? ⟨w.heap.size, 0, none⟩ = some (.int .i64 0) ∧ w1.cell? ⟨w.heap.size, 1, none⟩ = some (.int .i64 0) ∧ w1.cell? ⟨w.heap.size, 2, none⟩ = some (.int .i64 0)) ∧
    (w1.frozen? ⟨w.heap.size, 0, none⟩ = false ∧ w1.frozen? ⟨w.heap.size, 1, none⟩ = false ∧ w1.frozen? ⟨w.heap.size, 2, none⟩ = false) ∧ w.heap.size < w1.heap.size := by
  have h2 := hbr.size
  have h3 := hb1.size
  simp at h2 h3
  have hb : Below (w.heap.size + 1) (w.alloc (.cells #[.int .i64 0, .int .i64 0, .int .i64 0] t)) w1 :=
    hbr.trans (Below.trans (Below.alloc (Below.refl _ _) (by omega) o) (hb1.mono (by simp; omega)))
  exact ⟨hb, (zero_cells hb).1, (zero_cells hb).2, by omega⟩
set_option maxHeartbeats 2000000 in
theorem implParseSome (t : ByteArray) (m : Nat) (w : World) (hm : findT t = some m) :
    Calls Try.prog 12 #[.string t] w fun e w' => e = .returned (.tuple #[.agg #[.int .i64 (sx m), .int .i64 (sy m), .int .i64 (sz m)], .bool true]) ∧ Below w.heap.size w w' := by
  obtain ⟨h27, hmt, hmf⟩ := find_some hm
  have HT := Lib.hid hmt; have HF := Lib.hid hmf
  clear hm hmt hmf
  go_enter Try.func12, Try.ntmps12
  go_wp2
  go_loopw [4] (fun i wr => ∃ k : Nat, k ≤ m ∧ i = .int .i64 k ∧ Below (w.heap.size + 1) (w.alloc (.cells #[.int .i64 0, .int .i64 0, .int .i64 0] 24)) wr) (fun i _ => 27 - (intOf i).toNat)
  case atStart => exact ⟨0, Nat.zero_le _, rfl, Below.refl _ _⟩
  case round =>
    obtain ⟨k, hk, rfl, hbr⟩ := hrel
    have hk0 : (0 : Int) ≤ (k : Int) := by omega
    have hk27 : (k : Int) < 27 := by omega
    have HV := Lib.hid (stB_true (s_range hk0 hk27))
    by_cases hlt : k < m
    · have hcmp := HF.out k hlt
      go_wp2_with (first
        | (go_at_call 23; refine (implAt _ _ (by omega) (by omega)).mono ?_; rintro e w' ⟨rfl, rfl⟩)
        | (go_at_call 7; refine (implFormat _ _ _ _ HV.out).mono ?_; rintro e w1 ⟨rfl, hb1⟩; rw [fm_eq]; obtain ⟨hbn, zc1, zf1, hsz1⟩ := step_facts hbr hb1))
      go_roundw
      case rel => exact ⟨k + 1, by omega, by go_num, by assumption⟩
      case measure => simp [intOf]; omega
    · obtain rfl : k = m := by omega
      have hcmp := HT.out
      go_wp2_with (first
        | (go_at_call 23; refine (implAt _ _ (by omega) (by omega)).mono ?_; rintro e w' ⟨rfl, rfl⟩)
        | (go_at_call 7; refine (implFormat _ _ _ _ HV.out).mono ?_; rintro e w1 ⟨rfl, hb1⟩; rw [fm_eq]; obtain ⟨hbn, zc1, zf1, hsz1⟩ := step_facts hbr hb1))
      refine bodyPost_ret (v := .tuple #[.agg #[.int .i64 (sx k), .int .i64 (sy k), .int .i64 (sz k)], .bool true]) ?_ rfl ⟨rfl, ?_⟩
      · simp [results, Try.results12, go_sem, zc1, hsz1]
      · have hb0 : Below w.heap.size w w1 := Below.trans (Below.alloc (Below.refl _ _) (Nat.le_refl _) _) (hbn.mono (by omega))
        exact (((hb0.setCell (Nat.le_refl _) _).setCell (Nat.le_refl _) _).setCell (Nat.le_refl _) _).alloc (by simp; omega) _
theorem implParseNone (t : ByteArray) (w : World) (hm : findT t = none) :
    Calls Try.prog 12 #[.string t] w fun e w' => e = .returned (.tuple #[.agg #[.int .i64 0, .int .i64 0, .int .i64 0], .bool false]) ∧ Below w.heap.size w w' := by
  have HF := Lib.hid (find_none hm)
  clear hm
  go_enter Try.func12, Try.ntmps12
  go_wp2
  go_loopw [4] (fun i wr => ∃ k : Nat, k ≤ 27 ∧ i = .int .i64 k ∧ Below (w.heap.size + 1) (w.alloc (.cells #[.int .i64 0, .int .i64 0, .int .i64 0] 24)) wr) (fun i _ => 27 - (intOf i).toNat)
  case atStart => exact ⟨0, Nat.zero_le _, rfl, Below.refl _ _⟩
  case round =>
    obtain ⟨k, hk, rfl, hbr⟩ := hrel
    have hk0 : (0 : Int) ≤ (k : Int) := by omega
    by_cases hlt : k < 27
    · have hk27 : (k : Int) < 27 := by omega
      have HV := Lib.hid (stB_true (s_range hk0 hk27))
      have hcmp := HF.out k hlt
      go_wp2_with (first
        | (go_at_call 23; refine (implAt _ _ (by omega) (by omega)).mono ?_; rintro e w' ⟨rfl, rfl⟩)
        | (go_at_call 7; refine (implFormat _ _ _ _ HV.out).mono ?_; rintro e w1 ⟨rfl, hb1⟩; rw [fm_eq]; obtain ⟨hbn, zc1, zf1, hsz1⟩ := step_facts hbr hb1))
      go_roundw
      case rel => exact ⟨k + 1, by omega, by go_num, by assumption⟩
      case measure => simp [intOf]; omega
    · obtain rfl : k = 27 := by omega
      obtain ⟨zc1, zf1⟩ := zero_cells hbr
      have hsz1 : w.heap.size < wr.heap.size := by have := hbr.size; simp at this; omega
      go_wp2
      refine bodyPost_ret (v := .tuple #[.agg #[.int .i64 0, .int .i64 0, .int .i64 0], .bool false]) ?_ rfl ⟨rfl, ?_⟩
      · simp [results, Try.results12, go_sem, zc1]
      · have hb0 : Below w.heap.size w wr := Below.trans (Below.alloc (Below.refl _ _) (Nat.le_refl _) _) (hbr.mono (by omega))
        exact ((hb0.setCell (Nat.le_refl _) _).setCell (Nat.le_refl _) _).setCell (Nat.le_refl _) _
end Go.Proofs.Ytaimlfhbcgocnaa.Nu
