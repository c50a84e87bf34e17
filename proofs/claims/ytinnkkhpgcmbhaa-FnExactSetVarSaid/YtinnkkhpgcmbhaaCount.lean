/- Contracts: how many, and which is the first. -/
import Derived.Test.YtinnkkhpgcmbhaaFind
import Derived.Test.YtinnkkhpgcmbhaaShelf
import Derived.Test.YtinnkkhpgcmbhaaNum
namespace Go.Proofs.Ytinnkkhpgcmbhaa.Co
open Go.RowKit Go.Proofs.Ytinnkkhpgcmbhaa.Ro Go.Proofs.Ytinnkkhpgcmbhaa.Bi Go.Proofs.Ytinnkkhpgcmbhaa.St Go.Proofs.Ytinnkkhpgcmbhaa.Se Go.Proofs.Ytinnkkhpgcmbhaa.Fi Go.Proofs.Ytinnkkhpgcmbhaa.Nu

theorem libIndex (s : ByteArray) (w : World) : Calls Try.prog 63 #[.string s, .int .u8 49] w fun e w' => e = .returned (.int .i64 (Lib.indexByte s.data.toList 49)) ∧ w = w' :=
  (Try.strings_IndexByte s 49 w).mono fun _ _ ⟨he, hw⟩ => ⟨he, hw.symm⟩
theorem libCount (s : ByteArray) (w : World) : Calls Try.prog 65 #[.string s, .string ⟨#[49]⟩] w fun e w' => e = .returned (.int .i64 (onesTo s s.size)) ∧ w = w' :=
  (Try.strings_Count_one s 49 w).mono fun _ _ ⟨he, hw⟩ => ⟨by rw [he, ones_all], hw.symm⟩
/-- How many bits there are, or -1. -/
def cntB (s : ByteArray) (n : Int) : Int := if bitsB s n then onesTo s s.size else -1
theorem cnt_yes {s : ByteArray} {n : Int} (h : bitsB s n = true) : cntB s n = onesTo s s.size := by simp [cntB, h]
theorem cnt_no {s : ByteArray} {n : Int} (h : bitsB s n = false) : cntB s n = -1 := by simp [cntB, h]
theorem specCountPred (s : ByteArray) (w : World) (hs : s.size ≤ 1048576) :
    Calls Try.prog 34 #[.string s] w fun e w' => e = .returned (.int .i64 (cntB s 27)) ∧ w = w' := by
  have hs' : s.size ≤ maxLen := by unfold maxLen; omega
  cases h1 : bitsB s 27 with
  | false =>
    have HC := Lib.hid (cnt_no h1)
    have H1 := Lib.hid h1; clear h1
    go_enter Try.func34, Try.ntmps34
    go_wp2_with (go_at_call 38; refine (specPredValid _ _ hs').mono ?_; rintro e w' ⟨rfl, rfl⟩; rw [H1.out])
    go_ret
    exact ⟨by rw [HC.out]; rfl, rfl⟩
  | true =>
    have HC := Lib.hid (cnt_yes h1)
    have HB := Lib.hid (fun k (hk : k < s.size) => bits_bit h1 hk)
    have H1 := Lib.hid h1; clear h1
    go_enter Try.func34, Try.ntmps34
    go_wp2_with (first
      | (go_at_call 38; refine (specPredValid _ _ hs').mono ?_; rintro e w' ⟨rfl, rfl⟩; rw [H1.out])
      | (go_at_call 60; refine (specCount _ _ hs HB.out).mono ?_; rintro e w' ⟨rfl, rfl⟩))
    go_ret
    exact ⟨by rw [HC.out]; rfl, rfl⟩
theorem implCountPred (s : ByteArray) (w : World) (hs : s.size ≤ 1048576) :
    Calls Try.prog 35 #[.string s] w fun e w' => e = .returned (.int .i64 (cntB s 27)) ∧ w = w' := by
  have hs' : s.size ≤ maxLen := by unfold maxLen; omega
  cases h1 : bitsB s 27 with
  | false =>
    have HC := Lib.hid (cnt_no h1)
    have H1 := Lib.hid h1; clear h1
    go_enter Try.func35, Try.ntmps35
    go_wp2_with (go_at_call 40; refine (implPredValid _ _ hs').mono ?_; rintro e w' ⟨rfl, rfl⟩; rw [H1.out])
    go_ret
    exact ⟨by rw [HC.out]; rfl, rfl⟩
  | true =>
    have HC := Lib.hid (cnt_yes h1)
    have HB := Lib.hid (fun k (hk : k < s.size) => bits_bit h1 hk)
    have H1 := Lib.hid h1; clear h1
    go_enter Try.func35, Try.ntmps35
    go_wp2_with (first
      | (go_at_call 40; refine (implPredValid _ _ hs').mono ?_; rintro e w' ⟨rfl, rfl⟩; rw [H1.out])
      | (go_at_call 65; refine (libCount _ _).mono ?_; rintro e w' ⟨rfl, rfl⟩))
    go_ret
    exact ⟨by rw [HC.out]; rfl, rfl⟩
theorem specCountRel (s : ByteArray) (w : World) (hs : s.size ≤ 1048576) :
    Calls Try.prog 36 #[.string s] w fun e w' => e = .returned (.int .i64 (cntB s 729)) ∧ w = w' := by
  have hs' : s.size ≤ maxLen := by unfold maxLen; omega
  cases h1 : bitsB s 729 with
  | false =>
    have HC := Lib.hid (cnt_no h1)
    have H1 := Lib.hid h1; clear h1
    go_enter Try.func36, Try.ntmps36
    go_wp2_with (go_at_call 47; refine (specRelValid _ _ hs').mono ?_; rintro e w' ⟨rfl, rfl⟩; rw [H1.out])
    go_ret
    exact ⟨by rw [HC.out]; rfl, rfl⟩
  | true =>
    have HC := Lib.hid (cnt_yes h1)
    have HB := Lib.hid (fun k (hk : k < s.size) => bits_bit h1 hk)
    have H1 := Lib.hid h1; clear h1
    go_enter Try.func36, Try.ntmps36
    go_wp2_with (first
      | (go_at_call 47; refine (specRelValid _ _ hs').mono ?_; rintro e w' ⟨rfl, rfl⟩; rw [H1.out])
      | (go_at_call 60; refine (specCount _ _ hs HB.out).mono ?_; rintro e w' ⟨rfl, rfl⟩))
    go_ret
    exact ⟨by rw [HC.out]; rfl, rfl⟩
theorem implCountRel (s : ByteArray) (w : World) (hs : s.size ≤ 1048576) :
    Calls Try.prog 37 #[.string s] w fun e w' => e = .returned (.int .i64 (cntB s 729)) ∧ w = w' := by
  have hs' : s.size ≤ maxLen := by unfold maxLen; omega
  cases h1 : bitsB s 729 with
  | false =>
    have HC := Lib.hid (cnt_no h1)
    have H1 := Lib.hid h1; clear h1
    go_enter Try.func37, Try.ntmps37
    go_wp2_with (go_at_call 48; refine (implRelValid _ _ hs').mono ?_; rintro e w' ⟨rfl, rfl⟩; rw [H1.out])
    go_ret
    exact ⟨by rw [HC.out]; rfl, rfl⟩
  | true =>
    have HC := Lib.hid (cnt_yes h1)
    have HB := Lib.hid (fun k (hk : k < s.size) => bits_bit h1 hk)
    have H1 := Lib.hid h1; clear h1
    go_enter Try.func37, Try.ntmps37
    go_wp2_with (first
      | (go_at_call 48; refine (implRelValid _ _ hs').mono ?_; rintro e w' ⟨rfl, rfl⟩; rw [H1.out])
      | (go_at_call 65; refine (libCount _ _).mono ?_; rintro e w' ⟨rfl, rfl⟩))
    go_ret
    exact ⟨by rw [HC.out]; rfl, rfl⟩
theorem idx_none {s : ByteArray} (h : onesTo s s.size = 0) : Lib.indexByte s.data.toList 49 = -1 := by
  rw [index_count]; have := ones_all s; unfold Lib.countByte at this; omega
theorem idx_some {s : ByteArray} (h : ¬ onesTo s s.size = 0) : 0 ≤ Lib.indexByte s.data.toList 49 ∧ Lib.indexByte s.data.toList 49 < s.size := by
  rcases index_range s.data.toList 49 with h1 | h1
  · rw [index_count] at h1
    have := ones_all s; unfold Lib.countByte at this; omega
  · exact ⟨h1.1, by simpa using h1.2⟩
set_option maxHeartbeats 1000000 in
theorem specFirstNot (s : ByteArray) (w : World) (hs : s.size ≤ 1048576) (h : bitsB s 27 = false) :
    Calls Try.prog 30 #[.string s] w fun e w' => e = .returned (.tuple #[.agg #[.int .i64 0, .int .i64 0, .int .i64 0], .bool false]) ∧ Below w.heap.size w w' := by
  have hs' : s.size ≤ maxLen := by unfold maxLen; omega
  have H1 := Lib.hid h; clear h
  obtain ⟨m, hm⟩ : ∃ m, Lib.indexByte s.data.toList 49 = m := ⟨_, rfl⟩
  have HM := Lib.hid hm; clear hm
  go_enter Try.func30, Try.ntmps30
  go_wp2_with (first | (go_at_call 38; refine (specPredValid _ _ hs').mono ?_; rintro e w' ⟨rfl, rfl⟩; rw [H1.out]) | (go_at_call 62; refine (specFind _ 49 _ hs').mono ?_; rintro e w' ⟨rfl, rfl⟩; rw [HM.out]))
  exact bodyPost_ret (v := .tuple #[.agg #[.int .i64 0, .int .i64 0, .int .i64 0], .bool false]) (by simp [results, Try.results30, go_sem]) rfl ⟨rfl, by repeat (first | exact Below.refl _ _ | assumption | refine Below.alloc ?_ (by simp <;> omega) _ | refine Below.trans ?_ (Below.mono (by assumption) (by simp <;> omega)))⟩
set_option maxHeartbeats 1000000 in
theorem specFirstNone (s : ByteArray) (w : World) (hs : s.size ≤ 1048576) (h : bitsB s 27 = true) (h0 : onesTo s s.size = 0) :
    Calls Try.prog 30 #[.string s] w fun e w' => e = .returned (.tuple #[.agg #[.int .i64 0, .int .i64 0, .int .i64 0], .bool false]) ∧ Below w.heap.size w w' := by
  have hs' : s.size ≤ maxLen := by unfold maxLen; omega
  have HB := Lib.hid (fun k (hk : k < s.size) => bits_bit h hk)
  have H1 := Lib.hid h; clear h
  have HM := Lib.hid (idx_none h0)
  go_enter Try.func30, Try.ntmps30
  go_wp2_with (first | (go_at_call 38; refine (specPredValid _ _ hs').mono ?_; rintro e w' ⟨rfl, rfl⟩; rw [H1.out]) | (go_at_call 60; refine (specCount _ _ hs HB.out).mono ?_; rintro e w' ⟨rfl, rfl⟩) | (go_at_call 62; refine (specFind _ 49 _ hs').mono ?_; rintro e w' ⟨rfl, rfl⟩; rw [HM.out]))
  exact bodyPost_ret (v := .tuple #[.agg #[.int .i64 0, .int .i64 0, .int .i64 0], .bool false]) (by simp [results, Try.results30, go_sem]) rfl ⟨rfl, by repeat (first | exact Below.refl _ _ | assumption | refine Below.alloc ?_ (by simp <;> omega) _ | refine Below.trans ?_ (Below.mono (by assumption) (by simp <;> omega)))⟩
set_option maxHeartbeats 1000000 in
theorem specFirstSome (s : ByteArray) (m : Nat) (w : World) (hs : s.size ≤ 1048576) (h : bitsB s 27 = true) (h0 : ¬ onesTo s s.size = 0) (hm : Lib.indexByte s.data.toList 49 = (m : Int)) :
    Calls Try.prog 30 #[.string s] w fun e w' => e = .returned (.tuple #[.agg #[.int .i64 (sx m), .int .i64 (sy m), .int .i64 (sz m)], .bool true]) ∧ Below w.heap.size w w' := by
  have hs' : s.size ≤ maxLen := by unfold maxLen; omega
  have HB := Lib.hid (fun k (hk : k < s.size) => bits_bit h hk)
  have hz := bits_size h
  have hr := (idx_some h0).2
  have hm27 : m < 27 := by omega
  have H1 := Lib.hid h; have HM := Lib.hid hm; clear h hm hz hr
  have h00 : (onesTo s s.size == 0) = false := by simp [h0]
  clear h0
  go_enter Try.func30, Try.ntmps30
  go_wp2_with (first | (go_at_call 38; refine (specPredValid _ _ hs').mono ?_; rintro e w' ⟨rfl, rfl⟩; rw [H1.out]) | (go_at_call 60; refine (specCount _ _ hs HB.out).mono ?_; rintro e w' ⟨rfl, rfl⟩) | (go_at_call 62; refine (specFind _ 49 _ hs').mono ?_; rintro e w' ⟨rfl, rfl⟩; rw [HM.out]) | (go_at_call 61; refine (specAt _ _ (by omega) (by omega)).mono ?_; rintro e w' ⟨rfl, rfl⟩))
  exact bodyPost_ret (v := .tuple #[.agg #[.int .i64 (sx m), .int .i64 (sy m), .int .i64 (sz m)], .bool true]) (by simp [results, Try.results30, go_sem]) rfl ⟨rfl, by repeat (first | exact Below.refl _ _ | assumption | refine Below.alloc ?_ (by simp <;> omega) _ | refine Below.trans ?_ (Below.mono (by assumption) (by simp <;> omega)))⟩
set_option maxHeartbeats 1000000 in
theorem specPairNot (s : ByteArray) (w : World) (hs : s.size ≤ 1048576) (h : bitsB s 729 = false) :
    Calls Try.prog 32 #[.string s] w fun e w' => e = .returned (.tuple #[.agg #[.int .i64 0, .int .i64 0, .int .i64 0], .agg #[.int .i64 0, .int .i64 0, .int .i64 0], .bool false]) ∧ Below w.heap.size w w' := by
  have hs' : s.size ≤ maxLen := by unfold maxLen; omega
  have H1 := Lib.hid h; clear h
  obtain ⟨m, hm⟩ : ∃ m, Lib.indexByte s.data.toList 49 = m := ⟨_, rfl⟩
  have HM := Lib.hid hm; clear hm
  go_enter Try.func32, Try.ntmps32
  go_wp2_with (first | (go_at_call 47; refine (specRelValid _ _ hs').mono ?_; rintro e w' ⟨rfl, rfl⟩; rw [H1.out]) | (go_at_call 62; refine (specFind _ 49 _ hs').mono ?_; rintro e w' ⟨rfl, rfl⟩; rw [HM.out]))
  exact bodyPost_ret (v := .tuple #[.agg #[.int .i64 0, .int .i64 0, .int .i64 0], .agg #[.int .i64 0, .int .i64 0, .int .i64 0], .bool false]) (by simp [results, Try.results32, go_sem]) rfl ⟨rfl, by repeat (first | exact Below.refl _ _ | assumption | refine Below.alloc ?_ (by simp <;> omega) _ | refine Below.trans ?_ (Below.mono (by assumption) (by simp <;> omega)))⟩
set_option maxHeartbeats 1000000 in
theorem specPairNone (s : ByteArray) (w : World) (hs : s.size ≤ 1048576) (h : bitsB s 729 = true) (h0 : onesTo s s.size = 0) :
    Calls Try.prog 32 #[.string s] w fun e w' => e = .returned (.tuple #[.agg #[.int .i64 0, .int .i64 0, .int .i64 0], .agg #[.int .i64 0, .int .i64 0, .int .i64 0], .bool false]) ∧ Below w.heap.size w w' := by
  have hs' : s.size ≤ maxLen := by unfold maxLen; omega
  have HB := Lib.hid (fun k (hk : k < s.size) => bits_bit h hk)
  have H1 := Lib.hid h; clear h
  have HM := Lib.hid (idx_none h0)
  go_enter Try.func32, Try.ntmps32
  go_wp2_with (first | (go_at_call 47; refine (specRelValid _ _ hs').mono ?_; rintro e w' ⟨rfl, rfl⟩; rw [H1.out]) | (go_at_call 60; refine (specCount _ _ hs HB.out).mono ?_; rintro e w' ⟨rfl, rfl⟩) | (go_at_call 62; refine (specFind _ 49 _ hs').mono ?_; rintro e w' ⟨rfl, rfl⟩; rw [HM.out]))
  exact bodyPost_ret (v := .tuple #[.agg #[.int .i64 0, .int .i64 0, .int .i64 0], .agg #[.int .i64 0, .int .i64 0, .int .i64 0], .bool false]) (by simp [results, Try.results32, go_sem]) rfl ⟨rfl, by repeat (first | exact Below.refl _ _ | assumption | refine Below.alloc ?_ (by simp <;> omega) _ | refine Below.trans ?_ (Below.mono (by assumption) (by simp <;> omega)))⟩
set_option maxHeartbeats 1000000 in
theorem specPairSome (s : ByteArray) (m : Nat) (w : World) (hs : s.size ≤ 1048576) (h : bitsB s 729 = true) (h0 : ¬ onesTo s s.size = 0) (hm : Lib.indexByte s.data.toList 49 = (m : Int)) :
    Calls Try.prog 32 #[.string s] w fun e w' => e = .returned (.tuple #[.agg #[.int .i64 (sx (m / 27)), .int .i64 (sy (m / 27)), .int .i64 (sz (m / 27))], .agg #[.int .i64 (sx (m % 27)), .int .i64 (sy (m % 27)), .int .i64 (sz (m % 27))], .bool true]) ∧ Below w.heap.size w w' := by
  have hs' : s.size ≤ maxLen := by unfold maxLen; omega
  have HB := Lib.hid (fun k (hk : k < s.size) => bits_bit h hk)
  have hz := bits_size h
  have hr := (idx_some h0).2
  have hm27 : m < 729 := by omega
  have H1 := Lib.hid h; have HM := Lib.hid hm; clear h hm hz hr
  have h00 : (onesTo s s.size == 0) = false := by simp [h0]
  clear h0
  go_enter Try.func32, Try.ntmps32
  go_wp2_with (first | (go_at_call 47; refine (specRelValid _ _ hs').mono ?_; rintro e w' ⟨rfl, rfl⟩; rw [H1.out]) | (go_at_call 60; refine (specCount _ _ hs HB.out).mono ?_; rintro e w' ⟨rfl, rfl⟩) | (go_at_call 62; refine (specFind _ 49 _ hs').mono ?_; rintro e w' ⟨rfl, rfl⟩; rw [HM.out]) | (go_at_call 61; refine (specAt _ _ (by omega) (by omega)).mono ?_; rintro e w' ⟨rfl, rfl⟩))
  go_outline
  trace_state
  exact bodyPost_ret (v := .tuple #[.agg #[.int .i64 (sx (m / 27)), .int .i64 (sy (m / 27)), .int .i64 (sz (m / 27))], .agg #[.int .i64 (sx (m % 27)), .int .i64 (sy (m % 27)), .int .i64 (sz (m % 27))], .bool true]) (by simp [results, Try.results32, go_sem]) rfl ⟨rfl, by repeat (first | exact Below.refl _ _ | assumption | refine Below.alloc ?_ (by simp <;> omega) _ | refine Below.trans ?_ (Below.mono (by assumption) (by simp <;> omega)))⟩
set_option maxHeartbeats 1000000 in
theorem implFirstNot (s : ByteArray) (w : World) (hs : s.size ≤ 1048576) (h : bitsB s 27 = false) :
    Calls Try.prog 31 #[.string s] w fun e w' => e = .returned (.tuple #[.agg #[.int .i64 0, .int .i64 0, .int .i64 0], .bool false]) ∧ Below w.heap.size w w' := by
  have hs' : s.size ≤ maxLen := by unfold maxLen; omega
  have H1 := Lib.hid h; clear h
  obtain ⟨m, hm⟩ : ∃ m, Lib.indexByte s.data.toList 49 = m := ⟨_, rfl⟩
  have HM := Lib.hid hm; clear hm
  go_enter Try.func31, Try.ntmps31
  go_wp2_with (first | (go_at_call 40; refine (implPredValid _ _ hs').mono ?_; rintro e w' ⟨rfl, rfl⟩; rw [H1.out]) | (go_at_call 63; refine (libIndex _ _).mono ?_; rintro e w' ⟨rfl, rfl⟩; rw [HM.out]))
  exact bodyPost_ret (v := .tuple #[.agg #[.int .i64 0, .int .i64 0, .int .i64 0], .bool false]) (by simp [results, Try.results31, go_sem]) rfl ⟨rfl, by repeat (first | exact Below.refl _ _ | assumption | refine Below.alloc ?_ (by simp <;> omega) _ | refine Below.trans ?_ (Below.mono (by assumption) (by simp <;> omega)))⟩
set_option maxHeartbeats 1000000 in
theorem implFirstNone (s : ByteArray) (w : World) (hs : s.size ≤ 1048576) (h : bitsB s 27 = true) (h0 : onesTo s s.size = 0) :
    Calls Try.prog 31 #[.string s] w fun e w' => e = .returned (.tuple #[.agg #[.int .i64 0, .int .i64 0, .int .i64 0], .bool false]) ∧ Below w.heap.size w w' := by
  have hs' : s.size ≤ maxLen := by unfold maxLen; omega
  have HB := Lib.hid (fun k (hk : k < s.size) => bits_bit h hk)
  have H1 := Lib.hid h; clear h
  have HM := Lib.hid (idx_none h0)
  go_enter Try.func31, Try.ntmps31
  go_wp2_with (first | (go_at_call 40; refine (implPredValid _ _ hs').mono ?_; rintro e w' ⟨rfl, rfl⟩; rw [H1.out]) | (go_at_call 60; refine (specCount _ _ hs HB.out).mono ?_; rintro e w' ⟨rfl, rfl⟩) | (go_at_call 63; refine (libIndex _ _).mono ?_; rintro e w' ⟨rfl, rfl⟩; rw [HM.out]))
  exact bodyPost_ret (v := .tuple #[.agg #[.int .i64 0, .int .i64 0, .int .i64 0], .bool false]) (by simp [results, Try.results31, go_sem]) rfl ⟨rfl, by repeat (first | exact Below.refl _ _ | assumption | refine Below.alloc ?_ (by simp <;> omega) _ | refine Below.trans ?_ (Below.mono (by assumption) (by simp <;> omega)))⟩
set_option maxHeartbeats 1000000 in
theorem implFirstSome (s : ByteArray) (m : Nat) (w : World) (hs : s.size ≤ 1048576) (h : bitsB s 27 = true) (h0 : ¬ onesTo s s.size = 0) (hm : Lib.indexByte s.data.toList 49 = (m : Int)) :
    Calls Try.prog 31 #[.string s] w fun e w' => e = .returned (.tuple #[.agg #[.int .i64 (sx m), .int .i64 (sy m), .int .i64 (sz m)], .bool true]) ∧ Below w.heap.size w w' := by
  have hs' : s.size ≤ maxLen := by unfold maxLen; omega
  have HB := Lib.hid (fun k (hk : k < s.size) => bits_bit h hk)
  have hz := bits_size h
  have hr := (idx_some h0).2
  have hm27 : m < 27 := by omega
  have H1 := Lib.hid h; have HM := Lib.hid hm; clear h hm hz hr
  have h00 : (onesTo s s.size == 0) = false := by simp [h0]
  clear h0
  go_enter Try.func31, Try.ntmps31
  go_wp2_with (first | (go_at_call 40; refine (implPredValid _ _ hs').mono ?_; rintro e w' ⟨rfl, rfl⟩; rw [H1.out]) | (go_at_call 60; refine (specCount _ _ hs HB.out).mono ?_; rintro e w' ⟨rfl, rfl⟩) | (go_at_call 63; refine (libIndex _ _).mono ?_; rintro e w' ⟨rfl, rfl⟩; rw [HM.out]) | (go_at_call 64; refine (implAt _ _ (by omega) (by omega)).mono ?_; rintro e w' ⟨rfl, rfl⟩))
  exact bodyPost_ret (v := .tuple #[.agg #[.int .i64 (sx m), .int .i64 (sy m), .int .i64 (sz m)], .bool true]) (by simp [results, Try.results31, go_sem]) rfl ⟨rfl, by repeat (first | exact Below.refl _ _ | assumption | refine Below.alloc ?_ (by simp <;> omega) _ | refine Below.trans ?_ (Below.mono (by assumption) (by simp <;> omega)))⟩
set_option maxHeartbeats 1000000 in
theorem implPairNot (s : ByteArray) (w : World) (hs : s.size ≤ 1048576) (h : bitsB s 729 = false) :
    Calls Try.prog 33 #[.string s] w fun e w' => e = .returned (.tuple #[.agg #[.int .i64 0, .int .i64 0, .int .i64 0], .agg #[.int .i64 0, .int .i64 0, .int .i64 0], .bool false]) ∧ Below w.heap.size w w' := by
  have hs' : s.size ≤ maxLen := by unfold maxLen; omega
  have H1 := Lib.hid h; clear h
  obtain ⟨m, hm⟩ : ∃ m, Lib.indexByte s.data.toList 49 = m := ⟨_, rfl⟩
  have HM := Lib.hid hm; clear hm
  go_enter Try.func33, Try.ntmps33
  go_wp2_with (first | (go_at_call 48; refine (implRelValid _ _ hs').mono ?_; rintro e w' ⟨rfl, rfl⟩; rw [H1.out]) | (go_at_call 63; refine (libIndex _ _).mono ?_; rintro e w' ⟨rfl, rfl⟩; rw [HM.out]))
  exact bodyPost_ret (v := .tuple #[.agg #[.int .i64 0, .int .i64 0, .int .i64 0], .agg #[.int .i64 0, .int .i64 0, .int .i64 0], .bool false]) (by simp [results, Try.results33, go_sem]) rfl ⟨rfl, by repeat (first | exact Below.refl _ _ | assumption | refine Below.alloc ?_ (by simp <;> omega) _ | refine Below.trans ?_ (Below.mono (by assumption) (by simp <;> omega)))⟩
set_option maxHeartbeats 1000000 in
theorem implPairNone (s : ByteArray) (w : World) (hs : s.size ≤ 1048576) (h : bitsB s 729 = true) (h0 : onesTo s s.size = 0) :
    Calls Try.prog 33 #[.string s] w fun e w' => e = .returned (.tuple #[.agg #[.int .i64 0, .int .i64 0, .int .i64 0], .agg #[.int .i64 0, .int .i64 0, .int .i64 0], .bool false]) ∧ Below w.heap.size w w' := by
  have hs' : s.size ≤ maxLen := by unfold maxLen; omega
  have HB := Lib.hid (fun k (hk : k < s.size) => bits_bit h hk)
  have H1 := Lib.hid h; clear h
  have HM := Lib.hid (idx_none h0)
  go_enter Try.func33, Try.ntmps33
  go_wp2_with (first | (go_at_call 48; refine (implRelValid _ _ hs').mono ?_; rintro e w' ⟨rfl, rfl⟩; rw [H1.out]) | (go_at_call 60; refine (specCount _ _ hs HB.out).mono ?_; rintro e w' ⟨rfl, rfl⟩) | (go_at_call 63; refine (libIndex _ _).mono ?_; rintro e w' ⟨rfl, rfl⟩; rw [HM.out]))
  exact bodyPost_ret (v := .tuple #[.agg #[.int .i64 0, .int .i64 0, .int .i64 0], .agg #[.int .i64 0, .int .i64 0, .int .i64 0], .bool false]) (by simp [results, Try.results33, go_sem]) rfl ⟨rfl, by repeat (first | exact Below.refl _ _ | assumption | refine Below.alloc ?_ (by simp <;> omega) _ | refine Below.trans ?_ (Below.mono (by assumption) (by simp <;> omega)))⟩
set_option maxHeartbeats 1000000 in
theorem implPairSome (s : ByteArray) (m : Nat) (w : World) (hs : s.size ≤ 1048576) (h : bitsB s 729 = true) (h0 : ¬ onesTo s s.size = 0) (hm : Lib.indexByte s.data.toList 49 = (m : Int)) :
    Calls Try.prog 33 #[.string s] w fun e w' => e = .returned (.tuple #[.agg #[.int .i64 (sx (m / 27)), .int .i64 (sy (m / 27)), .int .i64 (sz (m / 27))], .agg #[.int .i64 (sx (m % 27)), .int .i64 (sy (m % 27)), .int .i64 (sz (m % 27))], .bool true]) ∧ Below w.heap.size w w' := by
  have hs' : s.size ≤ maxLen := by unfold maxLen; omega
  have HB := Lib.hid (fun k (hk : k < s.size) => bits_bit h hk)
  have hz := bits_size h
  have hr := (idx_some h0).2
  have hm27 : m < 729 := by omega
  have H1 := Lib.hid h; have HM := Lib.hid hm; clear h hm hz hr
  have h00 : (onesTo s s.size == 0) = false := by simp [h0]
  clear h0
  go_enter Try.func33, Try.ntmps33
  go_wp2_with (first | (go_at_call 48; refine (implRelValid _ _ hs').mono ?_; rintro e w' ⟨rfl, rfl⟩; rw [H1.out]) | (go_at_call 60; refine (specCount _ _ hs HB.out).mono ?_; rintro e w' ⟨rfl, rfl⟩) | (go_at_call 63; refine (libIndex _ _).mono ?_; rintro e w' ⟨rfl, rfl⟩; rw [HM.out]) | (go_at_call 64; refine (implAt _ _ (by omega) (by omega)).mono ?_; rintro e w' ⟨rfl, rfl⟩))
  go_outline
  trace_state
  exact bodyPost_ret (v := .tuple #[.agg #[.int .i64 (sx (m / 27)), .int .i64 (sy (m / 27)), .int .i64 (sz (m / 27))], .agg #[.int .i64 (sx (m % 27)), .int .i64 (sy (m % 27)), .int .i64 (sz (m % 27))], .bool true]) (by simp [results, Try.results33, go_sem]) rfl ⟨rfl, by repeat (first | exact Below.refl _ _ | assumption | refine Below.alloc ?_ (by simp <;> omega) _ | refine Below.trans ?_ (Below.mono (by assumption) (by simp <;> omega)))⟩
end Go.Proofs.Ytinnkkhpgcmbhaa.Co
