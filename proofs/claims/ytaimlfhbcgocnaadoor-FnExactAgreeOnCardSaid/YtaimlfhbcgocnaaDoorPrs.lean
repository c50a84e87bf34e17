/- Contracts: the parse of a whole text; validity. -/
import Derived.Test.YtaimlfhbcgocnaaDoorEnds
import Derived.WalkSmall
import Derived.Test.YtaimlfhbcgocnaaDoorMid
namespace Go.Proofs.YtaimlfhbcgocnaaDoor.Ps
open Go.RowKit Go.Deep Go.Proofs.YtaimlfhbcgocnaaDoor.Pl Go.Proofs.YtaimlfhbcgocnaaDoor.Bi Go.Proofs.YtaimlfhbcgocnaaDoor.Ed
set_option linter.unusedVariables false

/-- A whole text of a sort, of so many bytes at most. -/
def okS (wide : Bool) (sort most : Nat) (s : ByteArray) : Bool := decide (s.size ≤ most) && decide (ends wide [sort] s.data.toList 0 = s.size)
theorem okS_false_big {wide : Bool} {sort most : Nat} {s : ByteArray} (h : most < s.size) : okS wide sort most s = false := by simp [okS]; omega
theorem okS_eq {wide : Bool} {sort most : Nat} {s : ByteArray} (h : s.size ≤ most) : okS wide sort most s = decide (ends wide [sort] s.data.toList 0 = s.size) := by simp [okS, h]
theorem okS_is {wide : Bool} {sort most : Nat} {s : ByteArray} (h : okS wide sort most s = true) : s.size ≤ most ∧ ∃ b k, Is wide sort b k ∧ s = bs (tx b k) := by
  simp [okS] at h
  obtain ⟨b, k, hi, ht⟩ := ends_whole (wide := wide) (s := sort) (l := s.data.toList) (by rw [h.2]; simp)
  exact ⟨h.1, b, k, hi, bs_of ht⟩
theorem is_okS {wide : Bool} {sort most : Nat} {b : UInt8} {k : F} (hi : Is wide sort b k) (hm : (tx b k).length ≤ most) : okS wide sort most (bs (tx b k)) = true := by
  have h := whole_ends hi
  rw [okS, bs_size, bs_list, h]; simp [hm]

theorem specWideValid (s : ByteArray) (w : World) (hs : s.size ≤ 1048576) : Calls Tryd.prog 14 #[.string s] w fun e w' => e = .returned (.bool (okS true 1 200 s)) ∧ Below w.heap.size w w' := by
  by_cases hbig : s.size ≤ 200
  · have H := Lib.hid (okS_eq (wide := true) (sort := 1) hbig)
    have h1 : (s.size : Int) ≤ 200 := by omega
    have hc := Lib.hid (specTestAny s hs true 0 w (by omega))
    obtain ⟨r, hr⟩ : ∃ r, ends true [1] s.data.toList 0 = r := ⟨_, rfl⟩
    rw [hr] at hc H
    clear hr
    go_enter Tryd.func14, Tryd.ntmps14
    go_wp2_with fail
    refine (hc.out).mono ?_
    rintro e w1 ⟨rfl, hb⟩
    by_cases hq : r = s.size
    · have g : (r == (s.size : Int)) = true := by simp [hq]
      have HQ := Lib.hid hq
      clear hq
      go_wp2_with fail
      go_ret
      exact ⟨by rw [H.out]; simp [HQ.out], hb⟩
    · have g : (r == (s.size : Int)) = false := by simp [hq]
      have HQ := Lib.hid hq
      clear hq
      go_wp2_with fail
      go_ret
      exact ⟨by rw [H.out]; simp [HQ.out], hb⟩
  · have H := Lib.hid (okS_false_big (wide := true) (sort := 1) (show 200 < s.size by omega))
    have h1 : decide ((s.size : Int) ≤ 200) = false := by simp; omega
    go_enter Tryd.func14, Tryd.ntmps14
    go_wp2_with fail
    go_ret
    exact ⟨by rw [H.out]; rfl, Below.refl _ _⟩
end Go.Proofs.YtaimlfhbcgocnaaDoor.Ps
