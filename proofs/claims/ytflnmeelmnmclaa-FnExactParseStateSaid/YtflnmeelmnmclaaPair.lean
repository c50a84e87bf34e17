/- Contracts: a pair in a relation. -/
import Derived.Test.YtflnmeelmnmclaaHas
import Derived.Lib.QuietBelow
namespace Go.Proofs.Ytflnmeelmnmclaa.Nu
open Go.RowKit Go.Sort Go.Proofs.Ytflnmeelmnmclaa.Ro Go.Proofs.Ytflnmeelmnmclaa.Bi Go.Proofs.Ytflnmeelmnmclaa.St Go.Proofs.Ytflnmeelmnmclaa.Se

def pairB (s : ByteArray) (x y z a b c : Int) : Bool := bitsB s 729 && (stB x y z && (stB a b c && one s (27 * (ix x y z).toNat + (ix a b c).toNat)))
theorem implPair (s : ByteArray) (i j : Nat) (w : World) (hs : s.size = 729) (hi : i < 27) (hj : j < 27) :
    Calls Try.prog 49 #[.string s, .int .i64 i, .int .i64 j] w fun e w' => e = .returned (.bool (one s (27 * i + j))) ∧ w = w' := by
  have hk : 27 * i + j < s.size := by omega
  have HR := Lib.hid (show one s (27 * i + j) = (((s[27 * i + j].toNat : Int)) == 49) by rw [one_nat hk, byte_ok])
  clear hs
  go_enter Try.func49, Try.ntmps49
  go_wp2
  go_ret
  exact ⟨by rw [HR.out]; rfl, rfl⟩
/-- The six cells of two states handed over by value, in every world of the region. -/
theorem cells6 (w : World) (t u : TypeId) (x y z a b c : Int) (p : Regrown) :
    let W := grow (redrawn (box (box w t x y z) u a b c) p.d) p.os
    (W.cell? ⟨w.heap.size, 0, none⟩ = some (.int .i64 x) ∧ W.cell? ⟨w.heap.size, 1, none⟩ = some (.int .i64 y) ∧ W.cell? ⟨w.heap.size, 2, none⟩ = some (.int .i64 z)) ∧
    (W.cell? ⟨w.heap.size + 1, 0, none⟩ = some (.int .i64 a) ∧ W.cell? ⟨w.heap.size + 1, 1, none⟩ = some (.int .i64 b) ∧ W.cell? ⟨w.heap.size + 1, 2, none⟩ = some (.int .i64 c)) := by
  refine ⟨⟨?_, ?_, ?_⟩, ⟨?_, ?_, ?_⟩⟩ <;> refine cell_regrown ?_ _ _ <;> simp [World.cell?_alloc_at, World.cell?_alloc_past]
theorem of_box {P : Program} {f : FuncId} {args : Array Value} {W : World} {v : Value} {o : Obj} (h : Calls P f args W fun e w' => e = .returned v ∧ W.alloc o = w') : Calls P f args W fun e w' => e = .returned v ∧ Below W.heap.size W w' :=
  h.mono fun _ _ ⟨he, hw⟩ => ⟨he, by rw [← hw]; exact (Below.refl _ _).alloc (Nat.le_refl _) _⟩
theorem of_same {P : Program} {f : FuncId} {args : Array Value} {W : World} {v : Value} (h : Calls P f args W fun e w' => e = .returned v ∧ W = w') : Calls P f args W fun e w' => e = .returned v ∧ Below W.heap.size W w' :=
  h.mono fun _ _ ⟨he, hw⟩ => ⟨he, by rw [← hw]; exact Below.refl _ _⟩
theorem as_value {P : Program} {f : FuncId} {args : Array Value} {W : World} {v v' : Value} (e : v = v') (h : Calls P f args W fun e w' => e = .returned v ∧ Below W.heap.size W w') : Calls P f args W fun e w' => e = .returned v' ∧ Below W.heap.size W w' := by rw [← e]; exact h
set_option maxHeartbeats 4000000 in
theorem specHasPair (s : ByteArray) (x y z a b c : Int) (w : World) (hs : s.size ≤ maxLen) :
    Calls Try.prog 35 #[.string s, .agg #[.int .i64 x, .int .i64 y, .int .i64 z], .agg #[.int .i64 a, .int .i64 b, .int .i64 c]] w fun e w' => e = .returned (.bool (pairB s x y z a b c)) ∧ Below w.heap.size w w' := by
  have hc := cells6 w 26 26 x y z a b c
  cases h1 : bitsB s 729 with
  | false =>
    have HR := Lib.hid (show pairB s x y z a b c = false by simp [pairB, h1])
    have H1 := Lib.hid h1; clear h1
    go_enter Try.func35, Try.ntmps35
    go_wp2
    refine wp_region_quiet_below (by kernel_rfl) (by kernel_rfl) ?_
    repeat (go_big_quiet_step (first | (go_at_call 20; refine Calls.regrown_of (as_value (by rw [H1.out]) (of_same (specRelValid _ _ hs))))))
    refine wpQuiet_nil ?_
    intro _ hw'
    obtain ⟨⟨dq, osq⟩, hw''⟩ := hw'
    subst hw''
    go_wp2
    go_ret
    exact ⟨by rw [HR.out]; rfl, Below.trans (by repeat (first | exact Below.refl _ _ | refine Below.alloc ?_ (by simp <;> omega) _)) (Below.mono (below_regrown _ _ _) (by simp <;> omega))⟩
  | true =>
    cases h2 : stB x y z with
    | false =>
      have HR := Lib.hid (show pairB s x y z a b c = false by simp [pairB, h2])
      have H1 := Lib.hid h1; have H2 := Lib.hid h2; have H3 := Lib.hid h2; clear h1 h2
      go_enter Try.func35, Try.ntmps35
      go_wp2
      refine wp_region_quiet_below (by kernel_rfl) (by kernel_rfl) ?_
      repeat (go_big_quiet_step (first | (go_at_call 20; refine Calls.regrown_of (as_value (by rw [H1.out]) (of_same (specRelValid _ _ hs)))) | (go_at_call 15; exact Calls.regrown_of (as_value (by first | rw [H2.out] | rw [H3.out]) (of_box (specStateValid _ _ _ _))))))
      refine wpQuiet_nil ?_
      intro _ hw'
      obtain ⟨⟨dq, osq⟩, hw''⟩ := hw'
      subst hw''
      go_wp2
      go_ret
      exact ⟨by rw [HR.out]; rfl, Below.trans (by repeat (first | exact Below.refl _ _ | refine Below.alloc ?_ (by simp <;> omega) _)) (Below.mono (below_regrown _ _ _) (by simp <;> omega))⟩
    | true =>
      cases h3 : stB a b c with
      | false =>
        have HR := Lib.hid (show pairB s x y z a b c = false by simp [pairB, h3])
        have H1 := Lib.hid h1; have H2 := Lib.hid h2; have H3 := Lib.hid h3; clear h1 h2 h3
        go_enter Try.func35, Try.ntmps35
        go_wp2
        refine wp_region_quiet_below (by kernel_rfl) (by kernel_rfl) ?_
        repeat (go_big_quiet_step (first | (go_at_call 20; refine Calls.regrown_of (as_value (by rw [H1.out]) (of_same (specRelValid _ _ hs)))) | (go_at_call 15; exact Calls.regrown_of (as_value (by first | rw [H2.out] | rw [H3.out]) (of_box (specStateValid _ _ _ _))))))
        refine wpQuiet_nil ?_
        intro _ hw'
        obtain ⟨⟨dq, osq⟩, hw''⟩ := hw'
        subst hw''
        go_wp2
        go_ret
        exact ⟨by rw [HR.out]; rfl, Below.trans (by repeat (first | exact Below.refl _ _ | refine Below.alloc ?_ (by simp <;> omega) _)) (Below.mono (below_regrown _ _ _) (by simp <;> omega))⟩
      | true =>
        have hr := ix_range (of_stB h2)
        have hr' := ix_range (of_stB h3)
        obtain ⟨m, hm⟩ := Int.eq_ofNat_of_zero_le hr.1
        obtain ⟨n, hn⟩ := Int.eq_ofNat_of_zero_le hr'.1
        have hsz := bits_size h1
        have hm27 : m < 27 := by omega
        have hn27 : n < 27 := by omega
        have hz : s.size = 729 := by omega
        have hk : 27 * m + n < s.size := by omega
        have HO := Lib.hid (show one s (27 * m + n) = (((s[27 * m + n].toNat : Int)) == 49) by rw [one_nat hk, byte_ok])
        have HR := Lib.hid (show pairB s x y z a b c = (((s[27 * m + n].toNat : Int)) == 49) by rw [pairB, h1, h2, h3, hm, hn, Int.toNat_natCast, Int.toNat_natCast, one_nat hk, byte_ok]; simp)
        have HZ := Lib.hid hz
        have H1 := Lib.hid h1; have H2 := Lib.hid h2; have H3 := Lib.hid h3; have HM := Lib.hid hm; have HN := Lib.hid hn
        clear h1 h2 h3 hm hn hr hr' hsz hz
        have i0 : (0 : Int) ≤ 27 * (m : Int) + (n : Int) := by omega
        have i1 : 27 * (m : Int) + (n : Int) < (s.size : Int) := by omega
        have i2 : (27 * (m : Int) + (n : Int)).toNat = 27 * m + n := by omega
        go_enter Try.func35, Try.ntmps35
        go_wp2
        refine wp_region_quiet_below (by kernel_rfl) (by kernel_rfl) ?_
        repeat (go_big_quiet_step (first | (go_at_call 20; refine Calls.regrown_of (as_value (by rw [H1.out]) (of_same (specRelValid _ _ hs)))) | (go_at_call 15; exact Calls.regrown_of (as_value (by first | rw [H2.out] | rw [H3.out]) (of_box (specStateValid _ _ _ _)))) | (go_at_call 45; exact Calls.regrown_of (as_value (by first | rw [HM.out] | rw [HN.out]) (of_box (specIndex _ _ _ _ (by first | exact H2.out | exact H3.out)))))))
        refine wpQuiet_nil ?_
        intro _ hw'
        obtain ⟨⟨dq, osq⟩, hw''⟩ := hw'
        subst hw''
        go_wp2
        go_ret
        exact ⟨by rw [HR.out]; rfl, Below.trans (by repeat (first | exact Below.refl _ _ | refine Below.alloc ?_ (by simp <;> omega) _)) (Below.mono (below_regrown _ _ _) (by simp <;> omega))⟩
set_option maxHeartbeats 4000000 in
theorem implHasPair (s : ByteArray) (x y z a b c : Int) (w : World) (hs : s.size ≤ maxLen) :
    Calls Try.prog 36 #[.string s, .agg #[.int .i64 x, .int .i64 y, .int .i64 z], .agg #[.int .i64 a, .int .i64 b, .int .i64 c]] w fun e w' => e = .returned (.bool (pairB s x y z a b c)) ∧ Below w.heap.size w w' := by
  have hc := cells6 w 26 26 x y z a b c
  cases h1 : bitsB s 729 with
  | false =>
    have HR := Lib.hid (show pairB s x y z a b c = false by simp [pairB, h1])
    have H1 := Lib.hid h1; clear h1
    go_enter Try.func36, Try.ntmps36
    go_wp2
    refine wp_region_quiet_below (by kernel_rfl) (by kernel_rfl) ?_
    repeat (go_big_quiet_step (first | (go_at_call 21; refine Calls.regrown_of (as_value (by rw [H1.out]) (of_same (implRelValid _ _ hs))))))
    refine wpQuiet_nil ?_
    intro _ hw'
    obtain ⟨⟨dq, osq⟩, hw''⟩ := hw'
    subst hw''
    go_wp2
    go_ret
    exact ⟨by rw [HR.out]; rfl, Below.trans (by repeat (first | exact Below.refl _ _ | refine Below.alloc ?_ (by simp <;> omega) _)) (Below.mono (below_regrown _ _ _) (by simp <;> omega))⟩
  | true =>
    cases h2 : stB x y z with
    | false =>
      have HR := Lib.hid (show pairB s x y z a b c = false by simp [pairB, h2])
      have H1 := Lib.hid h1; have H2 := Lib.hid h2; have H3 := Lib.hid h2; clear h1 h2
      go_enter Try.func36, Try.ntmps36
      go_wp2
      refine wp_region_quiet_below (by kernel_rfl) (by kernel_rfl) ?_
      repeat (go_big_quiet_step (first | (go_at_call 21; refine Calls.regrown_of (as_value (by rw [H1.out]) (of_same (implRelValid _ _ hs)))) | (go_at_call 17; exact Calls.regrown_of (as_value (by first | rw [H2.out] | rw [H3.out]) (of_box (implStateValid _ _ _ _))))))
      refine wpQuiet_nil ?_
      intro _ hw'
      obtain ⟨⟨dq, osq⟩, hw''⟩ := hw'
      subst hw''
      go_wp2
      go_ret
      exact ⟨by rw [HR.out]; rfl, Below.trans (by repeat (first | exact Below.refl _ _ | refine Below.alloc ?_ (by simp <;> omega) _)) (Below.mono (below_regrown _ _ _) (by simp <;> omega))⟩
    | true =>
      cases h3 : stB a b c with
      | false =>
        have HR := Lib.hid (show pairB s x y z a b c = false by simp [pairB, h3])
        have H1 := Lib.hid h1; have H2 := Lib.hid h2; have H3 := Lib.hid h3; clear h1 h2 h3
        go_enter Try.func36, Try.ntmps36
        go_wp2
        refine wp_region_quiet_below (by kernel_rfl) (by kernel_rfl) ?_
        repeat (go_big_quiet_step (first | (go_at_call 21; refine Calls.regrown_of (as_value (by rw [H1.out]) (of_same (implRelValid _ _ hs)))) | (go_at_call 17; exact Calls.regrown_of (as_value (by first | rw [H2.out] | rw [H3.out]) (of_box (implStateValid _ _ _ _))))))
        refine wpQuiet_nil ?_
        intro _ hw'
        obtain ⟨⟨dq, osq⟩, hw''⟩ := hw'
        subst hw''
        go_wp2
        go_ret
        exact ⟨by rw [HR.out]; rfl, Below.trans (by repeat (first | exact Below.refl _ _ | refine Below.alloc ?_ (by simp <;> omega) _)) (Below.mono (below_regrown _ _ _) (by simp <;> omega))⟩
      | true =>
        have hr := ix_range (of_stB h2)
        have hr' := ix_range (of_stB h3)
        obtain ⟨m, hm⟩ := Int.eq_ofNat_of_zero_le hr.1
        obtain ⟨n, hn⟩ := Int.eq_ofNat_of_zero_le hr'.1
        have hsz := bits_size h1
        have hm27 : m < 27 := by omega
        have hn27 : n < 27 := by omega
        have hz : s.size = 729 := by omega
        have hk : 27 * m + n < s.size := by omega
        have HO := Lib.hid (show one s (27 * m + n) = (((s[27 * m + n].toNat : Int)) == 49) by rw [one_nat hk, byte_ok])
        have HR := Lib.hid (show pairB s x y z a b c = (((s[27 * m + n].toNat : Int)) == 49) by rw [pairB, h1, h2, h3, hm, hn, Int.toNat_natCast, Int.toNat_natCast, one_nat hk, byte_ok]; simp)
        have HZ := Lib.hid hz
        have H1 := Lib.hid h1; have H2 := Lib.hid h2; have H3 := Lib.hid h3; have HM := Lib.hid hm; have HN := Lib.hid hn
        clear h1 h2 h3 hm hn hr hr' hsz hz
        have i0 : (0 : Int) ≤ 27 * (m : Int) + (n : Int) := by omega
        have i1 : 27 * (m : Int) + (n : Int) < (s.size : Int) := by omega
        have i2 : (27 * (m : Int) + (n : Int)).toNat = 27 * m + n := by omega
        go_enter Try.func36, Try.ntmps36
        go_wp2
        refine wp_region_quiet_below (by kernel_rfl) (by kernel_rfl) ?_
        repeat (go_big_quiet_step (first | (go_at_call 21; refine Calls.regrown_of (as_value (by rw [H1.out]) (of_same (implRelValid _ _ hs)))) | (go_at_call 17; exact Calls.regrown_of (as_value (by first | rw [H2.out] | rw [H3.out]) (of_box (implStateValid _ _ _ _)))) | (go_at_call 26; exact Calls.regrown_of (as_value (by first | rw [numB_true H2.out, HM.out] | rw [numB_true H3.out, HN.out]) (implStateIndex _ _ _ _))) | (go_at_call 49; exact Calls.regrown_of (as_value (by rw [HO.out]) (of_same (implPair s m n _ HZ.out (by assumption) (by assumption)))))))
        refine wpQuiet_nil ?_
        intro _ hw'
        obtain ⟨⟨dq, osq⟩, hw''⟩ := hw'
        subst hw''
        go_wp2
        go_ret
        exact ⟨by rw [HR.out]; rfl, Below.trans (by repeat (first | exact Below.refl _ _ | refine Below.alloc ?_ (by simp <;> omega) _)) (Below.mono (below_regrown _ _ _) (by simp <;> omega))⟩
end Go.Proofs.Ytflnmeelmnmclaa.Nu
