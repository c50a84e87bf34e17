/- Contract: the variables of a text. -/
import Derived.Test.YtaimlfhbcgocnaaDoorSw
namespace Go.Proofs.YtaimlfhbcgocnaaDoor.Vs
open Go.RowKit Go.Deep Go.Proofs.YtaimlfhbcgocnaaDoor.Pl Go.Proofs.YtaimlfhbcgocnaaDoor.Bi Go.Proofs.YtaimlfhbcgocnaaDoor.Fi Go.Proofs.YtaimlfhbcgocnaaDoor.Ed Go.Proofs.YtaimlfhbcgocnaaDoor.Ps Go.Proofs.YtaimlfhbcgocnaaDoor.Sw
set_option linter.unusedVariables false

/-- The names among the first so many that occur in a text. -/
def occ (l : List UInt8) (c : UInt8) : Bool := decide (0 ≤ Lib.indexByte l c)
def varsTo (wide : Bool) (l : List UInt8) (k : Nat) : List UInt8 := ((names wide).data.toList.take k).filter (occ l)
def varsIn (wide : Bool) (l : List UInt8) : List UInt8 := (names wide).data.toList.filter (occ l)
theorem names_size (wide : Bool) : (names wide).size ≤ 6 := by cases wide <;> decide
theorem varsTo_len (wide : Bool) (l : List UInt8) (k : Nat) : (varsTo wide l k).length ≤ 6 := by
  have h1 := List.length_filter_le (occ l) ((names wide).data.toList.take k)
  have h2 := List.length_take_le' k (names wide).data.toList
  have h3 := names_size wide
  have h4 : (names wide).data.toList.length = (names wide).size := by simp
  unfold varsTo
  omega
theorem varsTo_all (wide : Bool) (l : List UInt8) : varsTo wide l (names wide).size = varsIn wide l := by
  unfold varsTo varsIn
  rw [List.take_of_length_le (by simp)]
theorem varsTo_step (wide : Bool) (l : List UInt8) (k : Nat) (hk : k < (names wide).size) : varsTo wide l (k + 1) = varsTo wide l k ++ (if occ l (names wide)[k] then [(names wide)[k]] else []) := by
  unfold varsTo
  rw [List.take_add_one, byte_at _ k hk, List.filter_append]
  cases h : occ l (names wide)[k] <;> simp [h]
theorem one_at (s : ByteArray) (k : Nat) (hk : k < s.size) : s.extract k (k + 1) = bs [s[k]] := by
  refine bs_of ?_
  simp only [ByteArray.data_extract, Array.toList_extract, List.extract_eq_take_drop]
  rw [drop_at hk, show k + 1 - k = 1 by omega]; rfl
set_option maxRecDepth 100000 in
set_option maxHeartbeats 2000000 in
theorem specVars (s : ByteArray) (wide : Bool) (w : World) (hs : s.size ≤ 1048576) :
    Calls Tryd.prog 13 #[.string s, .bool wide] w fun e w' => e = .returned (.string (bs (varsIn wide s.data.toList))) ∧ w = w' := by
  have hm : s.size ≤ maxLen := by unfold maxLen; omega
  have hN := Lib.hid (fun w => specNames wide w)
  have hN6 := names_size wide
  have hst := Lib.hid (varsTo_step wide s.data.toList)
  have hal := Lib.hid (varsTo_all wide s.data.toList)
  have hlen := Lib.hid (varsTo_len wide s.data.toList)
  obtain ⟨nm, hnm⟩ : ∃ nm, names wide = nm := ⟨_, rfl⟩
  rw [hnm] at hN hN6 hst hal
  have hN6' : (nm.size : Int) ≤ 6 := by omega
  clear hnm
  go_enter Tryd.func13, Tryd.ntmps13
  go_wp2_with (go_at_call 21; refine (hN.out _).mono ?_; rintro e w' ⟨rfl, rfl⟩)
  go_loop [5, 7] (fun out i => ∃ k : Nat, k ≤ nm.size ∧ i = .int .i64 k ∧ out = .string (bs (varsTo wide s.data.toList k))) (fun _ i => nm.size - (intOf i).toNat)
  case atStart => exact ⟨0, Nat.zero_le _, rfl, rfl⟩
  case round =>
    obtain ⟨k, hk, rfl, rfl⟩ := hrel
    by_cases hlt : k < nm.size
    · have hlt' : (k : Int) < (nm.size : Int) := by omega
      have HF := Lib.hid (fun w => specFind s nm[k] w hm)
      have hz : (bs (varsTo wide s.data.toList k)).size ≤ 6 := by rw [bs_size]; exact hlen.out k
      have hx := one_at nm k hlt
      have hz1 : (nm.extract k (k + 1)).size = 1 := by rw [hx]; rfl
      have HX := Lib.hid hx
      clear hx
      have k1 : (k : Int) + 1 ≤ (nm.size : Int) := by omega
      have k2 : ((k : Int) + 1).toNat = k + 1 := by omega
      have HS := Lib.hid (hst.out k hlt)
      obtain ⟨iv, hiv⟩ : ∃ iv, Lib.indexByte s.data.toList nm[k] = iv := ⟨_, rfl⟩
      rw [hiv] at HF
      by_cases hi : 0 ≤ iv
      · have HR := Lib.hid (show bs (varsTo wide s.data.toList (k + 1)) = bs (varsTo wide s.data.toList k) ++ nm.extract k (k + 1) by
          rw [HS.out, HX.out, occ, hiv]; simp [hi, bs_app])
        clear hiv
        go_wp2_with (go_at_call 22; refine (HF.out _).mono ?_; rintro e w' ⟨rfl, rfl⟩)
        go_round
        case rel => exact ⟨k + 1, by omega, by go_num, by rw [HR.out]⟩
        case measure => simp [intOf]; omega
      · have hi' : iv < 0 := by omega
        have HR := Lib.hid (show bs (varsTo wide s.data.toList (k + 1)) = bs (varsTo wide s.data.toList k) by
          rw [HS.out, occ, hiv]; simp [hi])
        clear hiv hi
        go_wp2_with (go_at_call 22; refine (HF.out _).mono ?_; rintro e w' ⟨rfl, rfl⟩)
        go_round
        case rel => exact ⟨k + 1, by omega, by go_num, by rw [HR.out]⟩
        case measure => simp [intOf]; omega
    · obtain rfl : k = nm.size := by omega
      go_wp2_with fail
      go_ret
      exact ⟨by rw [← hal.out]; rfl, rfl⟩
end Go.Proofs.YtaimlfhbcgocnaaDoor.Vs
