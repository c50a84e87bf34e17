/- Contracts: sets and relations as texts: validity, one within another; a state's number and the state of a number. -/
import Derived.Test.YtflnmeelmnmclaaBitOps
import Derived.Test.YtflnmeelmnmclaaState
import Derived.Deep.QuietTactic
import Derived.BigQuiet
import Derived.Deep.RegionWith
namespace Go.Proofs.Ytflnmeelmnmclaa.Se
open Go.RowKit Go.Proofs.Ytflnmeelmnmclaa.Ro Go.Proofs.Ytflnmeelmnmclaa.Bi Go.Proofs.Ytflnmeelmnmclaa.St

theorem specPredValid (s : ByteArray) (w : World) (hs : s.size ≤ maxLen) : Calls Try.prog 18 #[.string s] w fun e w' => e = .returned (.bool (bitsB s 27)) ∧ w = w' := by
  go_enter Try.func18, Try.ntmps18
  go_wp2_with (go_at_call 41; refine (specBits _ _ _ hs).mono ?_; rintro e w' ⟨rfl, rfl⟩)
  go_ret
  exact ⟨rfl, rfl⟩
theorem implPredValid (s : ByteArray) (w : World) (hs : s.size ≤ maxLen) : Calls Try.prog 19 #[.string s] w fun e w' => e = .returned (.bool (bitsB s 27)) ∧ w = w' := by
  go_enter Try.func19, Try.ntmps19
  go_wp2_with (go_at_call 42; refine (implBits _ _ _ hs).mono ?_; rintro e w' ⟨rfl, rfl⟩)
  go_ret
  exact ⟨rfl, rfl⟩
theorem specRelValid (s : ByteArray) (w : World) (hs : s.size ≤ maxLen) : Calls Try.prog 20 #[.string s] w fun e w' => e = .returned (.bool (bitsB s 729)) ∧ w = w' := by
  go_enter Try.func20, Try.ntmps20
  go_wp2_with (go_at_call 41; refine (specBits _ _ _ hs).mono ?_; rintro e w' ⟨rfl, rfl⟩)
  go_ret
  exact ⟨rfl, rfl⟩
theorem implRelValid (s : ByteArray) (w : World) (hs : s.size ≤ maxLen) : Calls Try.prog 21 #[.string s] w fun e w' => e = .returned (.bool (bitsB s 729)) ∧ w = w' := by
  go_enter Try.func21, Try.ntmps21
  go_wp2_with (go_at_call 42; refine (implBits _ _ _ hs).mono ?_; rintro e w' ⟨rfl, rfl⟩)
  go_ret
  exact ⟨rfl, rfl⟩
set_option maxHeartbeats 1000000 in
/-- Are both texts of bits, and the first within the second? -/
theorem specPredWithin (p q : ByteArray) (w : World) (hp : p.size ≤ 1048576) (hq : q.size ≤ 1048576) :
    Calls Try.prog 31 #[.string p, .string q] w fun e w' => e = .returned (.bool (bitsB p 27 && (bitsB q 27 && withinB p q))) ∧ Below w.heap.size w w' := by
  have hp' : p.size ≤ maxLen := by unfold maxLen; omega
  have hq' : q.size ≤ maxLen := by unfold maxLen; omega
  cases h1 : bitsB p 27 with
  | false =>
    have H1 := Lib.hid h1; clear h1
    go_enter Try.func31, Try.ntmps31
    go_wp2_with (go_at_call 18; refine (specPredValid _ _ hp').mono ?_; rintro e w' ⟨rfl, rfl⟩; rw [H1.out])
    go_ret
    exact ⟨rfl, Below.refl _ _⟩
  | true =>
    have H1 := Lib.hid h1
    cases h2 : bitsB q 27 with
    | false =>
      have H2 := Lib.hid h2; clear h1 h2
      go_enter Try.func31, Try.ntmps31
      go_wp2_with (go_at_call 18; refine (specPredValid _ _ (by assumption)).mono ?_; rintro e w' ⟨rfl, rfl⟩; first | rw [H1.out] | rw [H2.out])
      go_ret
      exact ⟨rfl, Below.refl _ _⟩
    | true =>
      have H2 := Lib.hid h2
      have hz : q.size = p.size := by have := bits_size h1; have := bits_size h2; omega
      have hcmp := within_and (p := p) (q := q) (fun k hk => bits_bit h1 hk)
      have HZ := Lib.hid hz
      clear h1 h2 hz
      go_enter Try.func31, Try.ntmps31
      go_wp2_with (first
        | (go_at_call 18; refine (specPredValid _ _ (by assumption)).mono ?_; rintro e w' ⟨rfl, rfl⟩; first | rw [H1.out] | rw [H2.out])
        | (go_at_call 47; refine (specAnd _ _ _ hp HZ.out).mono ?_; rintro e w' ⟨rfl, hb⟩))
      all_goals
        go_ret
        exact ⟨by simp, by assumption⟩
set_option maxHeartbeats 1000000 in
theorem implPredWithin (p q : ByteArray) (w : World) (hp : p.size ≤ 1048576) (hq : q.size ≤ 1048576) :
    Calls Try.prog 32 #[.string p, .string q] w fun e w' => e = .returned (.bool (bitsB p 27 && (bitsB q 27 && withinB p q))) ∧ w = w' := by
  have hp' : p.size ≤ maxLen := by unfold maxLen; omega
  have hq' : q.size ≤ maxLen := by unfold maxLen; omega
  cases h1 : bitsB p 27 with
  | false =>
    have H1 := Lib.hid h1; clear h1
    go_enter Try.func32, Try.ntmps32
    go_wp2_with (go_at_call 19; refine (implPredValid _ _ hp').mono ?_; rintro e w' ⟨rfl, rfl⟩; rw [H1.out])
    go_ret
    exact ⟨rfl, rfl⟩
  | true =>
    have H1 := Lib.hid h1
    cases h2 : bitsB q 27 with
    | false =>
      have H2 := Lib.hid h2; clear h1 h2
      go_enter Try.func32, Try.ntmps32
      go_wp2_with (go_at_call 19; refine (implPredValid _ _ (by assumption)).mono ?_; rintro e w' ⟨rfl, rfl⟩; first | rw [H1.out] | rw [H2.out])
      go_ret
      exact ⟨rfl, rfl⟩
    | true =>
      have H2 := Lib.hid h2
      have hz : q.size = p.size := by have := bits_size h1; have := bits_size h2; omega
      have HC := Lib.hid (fun k (hk : k < q.size) => bits_bit h2 hk)
      have HZ := Lib.hid hz
      clear h1 h2 hz
      go_enter Try.func32, Try.ntmps32
      go_wp2_with (first
        | (go_at_call 19; refine (implPredValid _ _ (by assumption)).mono ?_; rintro e w' ⟨rfl, rfl⟩; first | rw [H1.out] | rw [H2.out])
        | (go_at_call 48; refine (implWithin _ _ _ hp HZ.out HC.out).mono ?_; rintro e w' ⟨rfl, rfl⟩))
      all_goals
        go_ret
        exact ⟨by simp, rfl⟩
set_option maxHeartbeats 1000000 in
/-- Are both texts of bits, and the first within the second? -/
theorem specRelWithin (p q : ByteArray) (w : World) (hp : p.size ≤ 1048576) (hq : q.size ≤ 1048576) :
    Calls Try.prog 29 #[.string p, .string q] w fun e w' => e = .returned (.bool (bitsB p 729 && (bitsB q 729 && withinB p q))) ∧ Below w.heap.size w w' := by
  have hp' : p.size ≤ maxLen := by unfold maxLen; omega
  have hq' : q.size ≤ maxLen := by unfold maxLen; omega
  cases h1 : bitsB p 729 with
  | false =>
    have H1 := Lib.hid h1; clear h1
    go_enter Try.func29, Try.ntmps29
    go_wp2_with (go_at_call 20; refine (specRelValid _ _ hp').mono ?_; rintro e w' ⟨rfl, rfl⟩; rw [H1.out])
    go_ret
    exact ⟨rfl, Below.refl _ _⟩
  | true =>
    have H1 := Lib.hid h1
    cases h2 : bitsB q 729 with
    | false =>
      have H2 := Lib.hid h2; clear h1 h2
      go_enter Try.func29, Try.ntmps29
      go_wp2_with (go_at_call 20; refine (specRelValid _ _ (by assumption)).mono ?_; rintro e w' ⟨rfl, rfl⟩; first | rw [H1.out] | rw [H2.out])
      go_ret
      exact ⟨rfl, Below.refl _ _⟩
    | true =>
      have H2 := Lib.hid h2
      have hz : q.size = p.size := by have := bits_size h1; have := bits_size h2; omega
      have hcmp := within_and (p := p) (q := q) (fun k hk => bits_bit h1 hk)
      have HZ := Lib.hid hz
      clear h1 h2 hz
      go_enter Try.func29, Try.ntmps29
      go_wp2_with (first
        | (go_at_call 20; refine (specRelValid _ _ (by assumption)).mono ?_; rintro e w' ⟨rfl, rfl⟩; first | rw [H1.out] | rw [H2.out])
        | (go_at_call 47; refine (specAnd _ _ _ hp HZ.out).mono ?_; rintro e w' ⟨rfl, hb⟩))
      all_goals
        go_ret
        exact ⟨by simp, by assumption⟩
set_option maxHeartbeats 1000000 in
theorem implRelWithin (p q : ByteArray) (w : World) (hp : p.size ≤ 1048576) (hq : q.size ≤ 1048576) :
    Calls Try.prog 30 #[.string p, .string q] w fun e w' => e = .returned (.bool (bitsB p 729 && (bitsB q 729 && withinB p q))) ∧ w = w' := by
  have hp' : p.size ≤ maxLen := by unfold maxLen; omega
  have hq' : q.size ≤ maxLen := by unfold maxLen; omega
  cases h1 : bitsB p 729 with
  | false =>
    have H1 := Lib.hid h1; clear h1
    go_enter Try.func30, Try.ntmps30
    go_wp2_with (go_at_call 21; refine (implRelValid _ _ hp').mono ?_; rintro e w' ⟨rfl, rfl⟩; rw [H1.out])
    go_ret
    exact ⟨rfl, rfl⟩
  | true =>
    have H1 := Lib.hid h1
    cases h2 : bitsB q 729 with
    | false =>
      have H2 := Lib.hid h2; clear h1 h2
      go_enter Try.func30, Try.ntmps30
      go_wp2_with (go_at_call 21; refine (implRelValid _ _ (by assumption)).mono ?_; rintro e w' ⟨rfl, rfl⟩; first | rw [H1.out] | rw [H2.out])
      go_ret
      exact ⟨rfl, rfl⟩
    | true =>
      have H2 := Lib.hid h2
      have hz : q.size = p.size := by have := bits_size h1; have := bits_size h2; omega
      have HC := Lib.hid (fun k (hk : k < q.size) => bits_bit h2 hk)
      have HZ := Lib.hid hz
      clear h1 h2 hz
      go_enter Try.func30, Try.ntmps30
      go_wp2_with (first
        | (go_at_call 21; refine (implRelValid _ _ (by assumption)).mono ?_; rintro e w' ⟨rfl, rfl⟩; first | rw [H1.out] | rw [H2.out])
        | (go_at_call 48; refine (implWithin _ _ _ hp HZ.out HC.out).mono ?_; rintro e w' ⟨rfl, rfl⟩))
      all_goals
        go_ret
        exact ⟨by simp, rfl⟩
end Go.Proofs.Ytflnmeelmnmclaa.Se
