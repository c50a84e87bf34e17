/- Contracts and laws: the letters in a text; ExprVars, TestVars. -/
import Derived.Test.YtialodkhckaklaaVars
import Derived.Test.YtialodkhckaklaaShelf
namespace Go.Proofs.Ytialodkhckaklaa.Lt
open Go.RowKit Go.Deep Go.Proofs.Ytialodkhckaklaa.Pl Go.Proofs.Ytialodkhckaklaa.Bi Go.Proofs.Ytialodkhckaklaa.Fi Go.Proofs.Ytialodkhckaklaa.Ed Go.Proofs.Ytialodkhckaklaa.Ps Go.Proofs.Ytialodkhckaklaa.Sw Go.Proofs.Ytialodkhckaklaa.Vs
set_option linter.unusedVariables false

theorem liteByte (s : ByteArray) (c : UInt8) (w : World) : Calls Try.prog 87 #[.string s, .int .u8 (c.toNat : Int)] w fun e w' => e = .returned (.int .i64 (Lib.indexByte s.data.toList c)) ∧ w = w' :=
  (Try.stringslite_IndexByte s (c.toNat : Int) w).mono fun _ _ ⟨he, hw⟩ => ⟨by rw [he]; simp, hw.symm⟩
set_option maxRecDepth 100000 in
theorem liteIndex (s : ByteArray) (c : UInt8) (w : World) : Calls Try.prog 91 #[.string s, .string ⟨#[c]⟩] w fun e w' => e = .returned (.int .i64 (Lib.indexByte s.data.toList c)) ∧ w = w' := by
  by_cases hs : s.toList = [c]
  · have g : ([c] == s.toList) = true := by rw [hs]; simp
    have HI := Lib.hid (show Lib.indexByte s.data.toList c = 0 by rw [← ByteArray.toList_eq, hs]; simp [Lib.indexByte])
    clear hs
    go_enter Try.func91, Try.ntmps91
    go_wp2_with fail
    go_ret
    exact ⟨by rw [HI.out]; rfl, rfl⟩
  · have g : ([c] == s.toList) = false := beq_eq_false_iff_ne.2 (Ne.symm hs)
    have HC := Lib.hid (fun w => liteByte s c w)
    obtain ⟨iv, hiv⟩ : ∃ iv, Lib.indexByte s.data.toList c = iv := ⟨_, rfl⟩
    rw [hiv] at HC ⊢
    clear hiv hs
    go_enter Try.func91, Try.ntmps91
    go_wp2_with (go_at_call 87; refine (HC.out _).mono ?_; rintro e w' ⟨rfl, rfl⟩)
    go_ret
    exact ⟨rfl, rfl⟩
theorem stringsIndex (s : ByteArray) (c : UInt8) (w : World) : Calls Try.prog 88 #[.string s, .string ⟨#[c]⟩] w fun e w' => e = .returned (.int .i64 (Lib.indexByte s.data.toList c)) ∧ w = w' := by
  have HC := Lib.hid (fun w => liteIndex s c w)
  obtain ⟨iv, hiv⟩ : ∃ iv, Lib.indexByte s.data.toList c = iv := ⟨_, rfl⟩
  rw [hiv] at HC ⊢
  clear hiv
  go_enter Try.func88, Try.ntmps88
  go_wp2_with (go_at_call 91; refine (HC.out _).mono ?_; rintro e w' ⟨rfl, rfl⟩)
  go_ret
  exact ⟨rfl, rfl⟩
theorem libContains (s : ByteArray) (c : UInt8) (w : World) : Calls Try.prog 80 #[.string s, .string ⟨#[c]⟩] w fun e w' => e = .returned (.bool (decide (0 ≤ Lib.indexByte s.data.toList c))) ∧ w = w' := by
  have HC := Lib.hid (fun w => stringsIndex s c w)
  obtain ⟨iv, hiv⟩ : ∃ iv, Lib.indexByte s.data.toList c = iv := ⟨_, rfl⟩
  rw [hiv] at HC ⊢
  clear hiv
  go_enter Try.func80, Try.ntmps80
  go_wp2_with (go_at_call 88; refine (HC.out _).mono ?_; rintro e w' ⟨rfl, rfl⟩)
  go_ret
  exact ⟨rfl, rfl⟩
theorem letters_step (l : List UInt8) (k : Nat) (c : UInt8) (hc : (names false).data.toList[k]? = some c) : varsTo false l (k + 1) = varsTo false l k ++ (if occ l c then [c] else []) := by
  unfold varsTo
  rw [List.take_add_one, hc, List.filter_append]
  cases h : occ l c <;> simp [h]
set_option maxRecDepth 100000 in
set_option maxHeartbeats 4000000 in
theorem implLetters (s : ByteArray) (w : World) :
    Calls Try.prog 63 #[.string s] w fun e w' => e = .returned (.string (bs (varsIn false s.data.toList))) ∧ Below w.heap.size w w' := by
  have HC := Lib.hid (fun c w => libContains s c w)
  have hlen := Lib.hid (varsTo_len false s.data.toList)
  have hal := Lib.hid (varsTo_all false s.data.toList)
  have hst := Lib.hid (letters_step s.data.toList)
  go_enter Try.func63, Try.ntmps63
  go_wp2_with fail
  go_loop [3, 5, 8] (fun out u i => ∃ k : Nat, k ≤ 3 ∧ i = .int .i64 k ∧ out = .string (bs (varsTo false s.data.toList k))) (fun _ _ i => 3 - (intOf i).toNat)
  case atStart => exact ⟨0, by omega, rfl, rfl⟩
  case round =>
    obtain ⟨k, hk, rfl, rfl⟩ := hrel
    have hz : (bs (varsTo false s.data.toList k)).size ≤ 6 := by rw [bs_size]; exact hlen.out k
    match k, hk with
    | 3, _ =>
      go_wp2_with fail
      go_ret
      exact ⟨by rw [← hal.out]; rfl, (Below.refl _ _).alloc (Nat.le_refl _) _⟩
    | 0, _ =>
      have HS := Lib.hid (hst.out 0 120 rfl)
      have HI := Lib.hid (HC.out 120)
      obtain ⟨iv, hiv⟩ : ∃ iv, Lib.indexByte s.data.toList 120 = iv := ⟨_, rfl⟩
      rw [hiv] at HI
      by_cases hi : 0 ≤ iv
      · have hi' : decide (0 ≤ iv) = true := by simp [hi]
        have HR := Lib.hid (show bs (varsTo false s.data.toList (0 + 1)) = bs (varsTo false s.data.toList 0) ++ ⟨#[120]⟩ by
          rw [HS.out, occ, hiv, if_pos hi', ← bs_app]; rfl)
        clear hiv hi
        go_wp2_with (go_at_call 80; refine (HI.out _).mono ?_; rintro e w' ⟨rfl, rfl⟩)
        go_round
        case rel => exact ⟨0 + 1, by omega, rfl, by rw [HR.out]⟩
        case measure => simp [intOf]
      · have hi' : decide (0 ≤ iv) = false := by simp [hi]
        have HR := Lib.hid (show bs (varsTo false s.data.toList (0 + 1)) = bs (varsTo false s.data.toList 0) by
          rw [HS.out, occ, hiv, hi']; simp)
        clear hiv hi
        go_wp2_with (go_at_call 80; refine (HI.out _).mono ?_; rintro e w' ⟨rfl, rfl⟩)
        go_round
        case rel => exact ⟨0 + 1, by omega, rfl, by rw [HR.out]⟩
        case measure => simp [intOf]
    | 1, _ =>
      have HS := Lib.hid (hst.out 1 121 rfl)
      have HI := Lib.hid (HC.out 121)
      obtain ⟨iv, hiv⟩ : ∃ iv, Lib.indexByte s.data.toList 121 = iv := ⟨_, rfl⟩
      rw [hiv] at HI
      by_cases hi : 0 ≤ iv
      · have hi' : decide (0 ≤ iv) = true := by simp [hi]
        have HR := Lib.hid (show bs (varsTo false s.data.toList (1 + 1)) = bs (varsTo false s.data.toList 1) ++ ⟨#[121]⟩ by
          rw [HS.out, occ, hiv, if_pos hi', ← bs_app]; rfl)
        clear hiv hi
        go_wp2_with (go_at_call 80; refine (HI.out _).mono ?_; rintro e w' ⟨rfl, rfl⟩)
        go_round
        case rel => exact ⟨1 + 1, by omega, rfl, by rw [HR.out]⟩
        case measure => simp [intOf]
      · have hi' : decide (0 ≤ iv) = false := by simp [hi]
        have HR := Lib.hid (show bs (varsTo false s.data.toList (1 + 1)) = bs (varsTo false s.data.toList 1) by
          rw [HS.out, occ, hiv, hi']; simp)
        clear hiv hi
        go_wp2_with (go_at_call 80; refine (HI.out _).mono ?_; rintro e w' ⟨rfl, rfl⟩)
        go_round
        case rel => exact ⟨1 + 1, by omega, rfl, by rw [HR.out]⟩
        case measure => simp [intOf]
    | 2, _ =>
      have HS := Lib.hid (hst.out 2 122 rfl)
      have HI := Lib.hid (HC.out 122)
      obtain ⟨iv, hiv⟩ : ∃ iv, Lib.indexByte s.data.toList 122 = iv := ⟨_, rfl⟩
      rw [hiv] at HI
      by_cases hi : 0 ≤ iv
      · have hi' : decide (0 ≤ iv) = true := by simp [hi]
        have HR := Lib.hid (show bs (varsTo false s.data.toList (2 + 1)) = bs (varsTo false s.data.toList 2) ++ ⟨#[122]⟩ by
          rw [HS.out, occ, hiv, if_pos hi', ← bs_app]; rfl)
        clear hiv hi
        go_wp2_with (go_at_call 80; refine (HI.out _).mono ?_; rintro e w' ⟨rfl, rfl⟩)
        go_round
        case rel => exact ⟨2 + 1, by omega, rfl, by rw [HR.out]⟩
        case measure => simp [intOf]
      · have hi' : decide (0 ≤ iv) = false := by simp [hi]
        have HR := Lib.hid (show bs (varsTo false s.data.toList (2 + 1)) = bs (varsTo false s.data.toList 2) by
          rw [HS.out, occ, hiv, hi']; simp)
        clear hiv hi
        go_wp2_with (go_at_call 80; refine (HI.out _).mono ?_; rintro e w' ⟨rfl, rfl⟩)
        go_round
        case rel => exact ⟨2 + 1, by omega, rfl, by rw [HR.out]⟩
        case measure => simp [intOf]
/-- What the function answers. -/
def vars0 (s : ByteArray) : ByteArray := if okS false 0 200 s then bs (varsIn false s.data.toList) else bs []
theorem implExprVars (s : ByteArray) (w : World) (hs : s.size ≤ 1048576) : Calls Try.prog 39 #[.string s] w fun e w' => e = .returned (.string (vars0 s)) ∧ Below w.heap.size w w' := by
  have hv := Lib.hid (fun w => implExprValid s w hs)
  have HC := Lib.hid (fun w => implLetters s w)
  cases h : okS false 0 200 s with
  | false =>
    have H := Lib.hid (show vars0 s = bs [] by simp [vars0, h])
    rw [h] at hv
    clear h
    go_enter Try.func39, Try.ntmps39
    go_wp2_with fail
    refine (hv.out _).mono ?_
    rintro e w1 ⟨rfl, hb⟩
    go_wp2_with fail
    go_ret
    exact ⟨by rw [H.out]; rfl, hb⟩
  | true =>
    have H := Lib.hid (show vars0 s = bs (varsIn false s.data.toList) by simp [vars0, h])
    rw [h] at hv
    clear h
    go_enter Try.func39, Try.ntmps39
    go_wp2_with fail
    refine (hv.out _).mono ?_
    rintro e w1 ⟨rfl, hb⟩
    go_wp2_with fail
    refine (HC.out _).mono ?_
    rintro e w2 ⟨rfl, hb2⟩
    go_wp2_with fail
    go_ret
    exact ⟨by rw [H.out]; rfl, grew hb hb2⟩
theorem specExprVars (s : ByteArray) (w : World) (hs : s.size ≤ 1048576) : Calls Try.prog 38 #[.string s] w fun e w' => e = .returned (.string (vars0 s)) ∧ Below w.heap.size w w' := by
  have hv := Lib.hid (fun w => specExprValid s w hs)
  have HC := Lib.hid (fun w => specVars s false w (by omega))
  cases h : okS false 0 200 s with
  | false =>
    have H := Lib.hid (show vars0 s = bs [] by simp [vars0, h])
    rw [h] at hv
    clear h
    go_enter Try.func38, Try.ntmps38
    go_wp2_with fail
    refine (hv.out _).mono ?_
    rintro e w1 ⟨rfl, hb⟩
    go_wp2_with fail
    go_ret
    exact ⟨by rw [H.out]; rfl, hb⟩
  | true =>
    have H := Lib.hid (show vars0 s = bs (varsIn false s.data.toList) by simp [vars0, h])
    rw [h] at hv
    clear h
    go_enter Try.func38, Try.ntmps38
    go_wp2_with fail
    refine (hv.out _).mono ?_
    rintro e w1 ⟨rfl, hb⟩
    go_wp2_with fail
    refine (HC.out _).mono ?_
    rintro e w2 ⟨rfl, rfl⟩
    go_wp2_with fail
    go_ret
    exact ⟨by rw [H.out]; rfl, hb⟩
theorem lawExprVars (s : ByteArray) (w : World) (hs : s.size ≤ maxLen) : Calls Try.prog 13 #[.string s] w fun e w' => e = .returned (.bool true) ∧ Below w.heap.size w w' := by
  by_cases hbig : s.size ≤ 1048576
  · have h1 : (s.size : Int) ≤ 1048576 := by omega
    obtain ⟨r, hr⟩ : ∃ r, vars0 s = r := ⟨_, rfl⟩
    have HA := Lib.hid (fun w => specExprVars s w hbig)
    have HB := Lib.hid (fun w => implExprVars s w hbig)
    rw [hr] at HA HB
    clear hr
    go_enter Try.func13, Try.ntmps13
    go_wp2_with (first
        | (go_at_call 38; refine (HA.out _).mono ?_; rintro e w1 ⟨rfl, hb1⟩)
        | (go_at_call 39; refine (HB.out _).mono ?_; rintro e w2 ⟨rfl, hb2⟩))
    go_ret
    exact ⟨rfl, grew hb1 hb2⟩
  · have h1 : (1048576 : Int) < (s.size : Int) := by omega
    go_enter Try.func13, Try.ntmps13
    go_wp2_with fail
    go_ret
    exact ⟨rfl, Below.refl _ _⟩
/-- What the function answers. -/
def vars1 (s : ByteArray) : ByteArray := if okS false 1 200 s then bs (varsIn false s.data.toList) else bs []
theorem implTestVars (s : ByteArray) (w : World) (hs : s.size ≤ 1048576) : Calls Try.prog 41 #[.string s] w fun e w' => e = .returned (.string (vars1 s)) ∧ Below w.heap.size w w' := by
  have hv := Lib.hid (fun w => implTestValid s w hs)
  have HC := Lib.hid (fun w => implLetters s w)
  cases h : okS false 1 200 s with
  | false =>
    have H := Lib.hid (show vars1 s = bs [] by simp [vars1, h])
    rw [h] at hv
    clear h
    go_enter Try.func41, Try.ntmps41
    go_wp2_with fail
    refine (hv.out _).mono ?_
    rintro e w1 ⟨rfl, hb⟩
    go_wp2_with fail
    go_ret
    exact ⟨by rw [H.out]; rfl, hb⟩
  | true =>
    have H := Lib.hid (show vars1 s = bs (varsIn false s.data.toList) by simp [vars1, h])
    rw [h] at hv
    clear h
    go_enter Try.func41, Try.ntmps41
    go_wp2_with fail
    refine (hv.out _).mono ?_
    rintro e w1 ⟨rfl, hb⟩
    go_wp2_with fail
    refine (HC.out _).mono ?_
    rintro e w2 ⟨rfl, hb2⟩
    go_wp2_with fail
    go_ret
    exact ⟨by rw [H.out]; rfl, grew hb hb2⟩
theorem specTestVars (s : ByteArray) (w : World) (hs : s.size ≤ 1048576) : Calls Try.prog 40 #[.string s] w fun e w' => e = .returned (.string (vars1 s)) ∧ Below w.heap.size w w' := by
  have hv := Lib.hid (fun w => specTestValid s w hs)
  have HC := Lib.hid (fun w => specVars s false w (by omega))
  cases h : okS false 1 200 s with
  | false =>
    have H := Lib.hid (show vars1 s = bs [] by simp [vars1, h])
    rw [h] at hv
    clear h
    go_enter Try.func40, Try.ntmps40
    go_wp2_with fail
    refine (hv.out _).mono ?_
    rintro e w1 ⟨rfl, hb⟩
    go_wp2_with fail
    go_ret
    exact ⟨by rw [H.out]; rfl, hb⟩
  | true =>
    have H := Lib.hid (show vars1 s = bs (varsIn false s.data.toList) by simp [vars1, h])
    rw [h] at hv
    clear h
    go_enter Try.func40, Try.ntmps40
    go_wp2_with fail
    refine (hv.out _).mono ?_
    rintro e w1 ⟨rfl, hb⟩
    go_wp2_with fail
    refine (HC.out _).mono ?_
    rintro e w2 ⟨rfl, rfl⟩
    go_wp2_with fail
    go_ret
    exact ⟨by rw [H.out]; rfl, hb⟩
theorem lawTestVars (s : ByteArray) (w : World) (hs : s.size ≤ maxLen) : Calls Try.prog 14 #[.string s] w fun e w' => e = .returned (.bool true) ∧ Below w.heap.size w w' := by
  by_cases hbig : s.size ≤ 1048576
  · have h1 : (s.size : Int) ≤ 1048576 := by omega
    obtain ⟨r, hr⟩ : ∃ r, vars1 s = r := ⟨_, rfl⟩
    have HA := Lib.hid (fun w => specTestVars s w hbig)
    have HB := Lib.hid (fun w => implTestVars s w hbig)
    rw [hr] at HA HB
    clear hr
    go_enter Try.func14, Try.ntmps14
    go_wp2_with (first
        | (go_at_call 40; refine (HA.out _).mono ?_; rintro e w1 ⟨rfl, hb1⟩)
        | (go_at_call 41; refine (HB.out _).mono ?_; rintro e w2 ⟨rfl, hb2⟩))
    go_ret
    exact ⟨rfl, grew hb1 hb2⟩
  · have h1 : (1048576 : Int) < (s.size : Int) := by omega
    go_enter Try.func14, Try.ntmps14
    go_wp2_with fail
    go_ret
    exact ⟨rfl, Below.refl _ _⟩
end Go.Proofs.Ytialodkhckaklaa.Lt
