/- Contracts: a state in a set, a pair in a relation. -/
import Derived.Test.YtflnmeelmnmclaaNum
namespace Go.Proofs.Ytflnmeelmnmclaa.Nu
open Go.RowKit Go.Proofs.Ytflnmeelmnmclaa.Ro Go.Proofs.Ytflnmeelmnmclaa.Bi Go.Proofs.Ytflnmeelmnmclaa.St Go.Proofs.Ytflnmeelmnmclaa.Se

theorem one_nat {s : ByteArray} {m : Nat} (h : m < s.size) : one s m = (s[m].toNat == 49) := one_at h
theorem byte_ok (c : UInt8) : (c.toNat == 49) = (((c.toNat : Int)) == 49) := by
  rw [Bool.eq_iff_iff]; simp only [beq_iff_eq]; omega
def hasB (s : ByteArray) (x y z : Int) : Bool := bitsB s 27 && (stB x y z && one s (ix x y z).toNat)
set_option maxHeartbeats 1000000 in
theorem specHasState (s : ByteArray) (x y z : Int) (w : World) (hs : s.size ≤ maxLen) :
    Calls Try.prog 33 #[.string s, .agg #[.int .i64 x, .int .i64 y, .int .i64 z]] w fun e w' => e = .returned (.bool (hasB s x y z)) ∧ Below w.heap.size w w' := by
  cases h1 : bitsB s 27 with
  | false =>
    have HR := Lib.hid (show hasB s x y z = false by simp [hasB, h1])
    have H1 := Lib.hid h1; clear h1
    go_enter Try.func33, Try.ntmps33
    go_wp2_with (go_at_call 18; refine (specPredValid _ _ hs).mono ?_; rintro e w' ⟨rfl, rfl⟩; rw [H1.out])
    go_ret
    exact ⟨by rw [HR.out]; rfl, by repeat (first | exact Below.refl _ _ | refine Below.alloc ?_ (by simp <;> omega) _)⟩
  | true =>
    cases h2 : stB x y z with
    | false =>
      have HR := Lib.hid (show hasB s x y z = false by simp [hasB, h2])
      have H1 := Lib.hid h1; have H2 := Lib.hid h2; clear h1 h2
      go_enter Try.func33, Try.ntmps33
      go_wp2_with (first
        | (go_at_call 18; refine (specPredValid _ _ hs).mono ?_; rintro e w' ⟨rfl, rfl⟩; rw [H1.out])
        | (go_at_call 15; refine (specStateValid _ _ _ _).mono ?_; rintro e w' ⟨rfl, rfl⟩; rw [H2.out]))
      go_ret
      exact ⟨by rw [HR.out]; rfl, by repeat (first | exact Below.refl _ _ | refine Below.alloc ?_ (by simp <;> omega) _)⟩
    | true =>
      have hr := ix_range (of_stB h2)
      obtain ⟨m, hm⟩ := Int.eq_ofNat_of_zero_le hr.1
      have hsz := bits_size h1
      have hms : m < s.size := by omega
      have HR := Lib.hid (show hasB s x y z = (((s[m].toNat : Int)) == 49) by rw [hasB, h1, h2, hm, Int.toNat_natCast, one_nat hms, byte_ok]; simp)
      have H1 := Lib.hid h1; have H2 := Lib.hid h2; have HM := Lib.hid hm
      clear h1 h2 hm hr hsz
      go_enter Try.func33, Try.ntmps33
      go_wp2_with (first
        | (go_at_call 18; refine (specPredValid _ _ hs).mono ?_; rintro e w' ⟨rfl, rfl⟩; rw [H1.out])
        | (go_at_call 15; refine (specStateValid _ _ _ _).mono ?_; rintro e w' ⟨rfl, rfl⟩; rw [H2.out])
        | (go_at_call 45; refine (specIndex _ _ _ _ H2.out).mono ?_; rintro e w' ⟨rfl, rfl⟩; rw [HM.out]))
      go_ret
      exact ⟨by rw [HR.out]; rfl, by repeat (first | exact Below.refl _ _ | assumption | refine Below.alloc ?_ (by simp <;> omega) _ | refine Below.trans ?_ (Below.mono (by assumption) (by simp <;> omega)))⟩
set_option maxHeartbeats 1000000 in
theorem implHasState (s : ByteArray) (x y z : Int) (w : World) (hs : s.size ≤ maxLen) :
    Calls Try.prog 34 #[.string s, .agg #[.int .i64 x, .int .i64 y, .int .i64 z]] w fun e w' => e = .returned (.bool (hasB s x y z)) ∧ Below w.heap.size w w' := by
  cases h1 : bitsB s 27 with
  | false =>
    have HR := Lib.hid (show hasB s x y z = false by simp [hasB, h1])
    have H1 := Lib.hid h1; clear h1
    go_enter Try.func34, Try.ntmps34
    go_wp2_with (go_at_call 19; refine (implPredValid _ _ hs).mono ?_; rintro e w' ⟨rfl, rfl⟩; rw [H1.out])
    go_ret
    exact ⟨by rw [HR.out]; rfl, by repeat (first | exact Below.refl _ _ | refine Below.alloc ?_ (by simp <;> omega) _)⟩
  | true =>
    cases h2 : stB x y z with
    | false =>
      have HR := Lib.hid (show hasB s x y z = false by simp [hasB, h2])
      have H1 := Lib.hid h1; have H2 := Lib.hid h2; clear h1 h2
      go_enter Try.func34, Try.ntmps34
      go_wp2_with (first
        | (go_at_call 19; refine (implPredValid _ _ hs).mono ?_; rintro e w' ⟨rfl, rfl⟩; rw [H1.out])
        | (go_at_call 17; refine (implStateValid _ _ _ _).mono ?_; rintro e w' ⟨rfl, rfl⟩; rw [H2.out]))
      go_ret
      exact ⟨by rw [HR.out]; rfl, by repeat (first | exact Below.refl _ _ | refine Below.alloc ?_ (by simp <;> omega) _)⟩
    | true =>
      have hr := ix_range (of_stB h2)
      obtain ⟨m, hm⟩ := Int.eq_ofNat_of_zero_le hr.1
      have hsz := bits_size h1
      have hms : m < s.size := by omega
      have HR := Lib.hid (show hasB s x y z = (((s[m].toNat : Int)) == 49) by rw [hasB, h1, h2, hm, Int.toNat_natCast, one_nat hms, byte_ok]; simp)
      have H1 := Lib.hid h1; have H2 := Lib.hid h2; have HM := Lib.hid hm
      clear h1 h2 hm hr hsz
      go_enter Try.func34, Try.ntmps34
      go_wp2_with (first
        | (go_at_call 19; refine (implPredValid _ _ hs).mono ?_; rintro e w' ⟨rfl, rfl⟩; rw [H1.out])
        | (go_at_call 17; refine (implStateValid _ _ _ _).mono ?_; rintro e w' ⟨rfl, rfl⟩; rw [H2.out])
        | (go_at_call 26; refine (implStateIndex _ _ _ _).mono ?_; rintro e w' ⟨rfl, hb⟩; rw [numB_true H2.out, HM.out]))
      go_ret
      exact ⟨by rw [HR.out]; rfl, by repeat (first | exact Below.refl _ _ | assumption | refine Below.alloc ?_ (by simp <;> omega) _ | refine Below.trans ?_ (Below.mono (by assumption) (by simp <;> omega)))⟩
end Go.Proofs.Ytflnmeelmnmclaa.Nu
