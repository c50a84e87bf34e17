/- Contracts: the parse of a whole text; validity. -/
import Derived.Test.YtnhdnfanjefglaaRead
import Derived.Test.YtnhdnfanjefglaaEnds
namespace Go.Proofs.Ytnhdnfanjefglaa.Ps
open Go.RowKit Go.Deep Go.Proofs.Ytnhdnfanjefglaa.Pl Go.Proofs.Ytnhdnfanjefglaa.Bi Go.Proofs.Ytnhdnfanjefglaa.Rd Go.Proofs.Ytnhdnfanjefglaa.Ed
set_option linter.unusedVariables false

/-- A whole text of a sort, of so many bytes at most. -/
def okS (wide : Bool) (sort most : Nat) (s : ByteArray) : Bool := decide (s.size ≤ most) && decide (ends wide [sort] s.data.toList 0 = s.size)
theorem okS_false_big {wide : Bool} {sort most : Nat} {s : ByteArray} (h : most < s.size) : okS wide sort most s = false := by simp [okS]; omega
theorem okS_eq {wide : Bool} {sort most : Nat} {s : ByteArray} (h : s.size ≤ most) : okS wide sort most s = decide (ends wide [sort] s.data.toList 0 = s.size) := by simp [okS, h]
theorem okS_is {wide : Bool} {sort most : Nat} {s : ByteArray} (h : okS wide sort most s = true) : s.size ≤ most ∧ ∃ b k, Is wide sort b k ∧ s = bs (tx b k) := by
  simp [okS] at h
  obtain ⟨b, k, hi, ht⟩ := ends_whole (wide := wide) (s := sort) (l := s.data.toList) (by rw [h.2]; simp)
  exact ⟨h.1, b, k, hi, bs_of ht⟩
theorem is_okS {wide : Bool} {sort most : Nat} {b : UInt8} {k : F} (hi : Is wide sort b k) (hm : (tx b k).length ≤ most) : okS wide sort most (bs (tx b k)) = true := by
  have h := whole_ends hi
  rw [okS, bs_size, bs_list, h]; simp [hm]

/-- What a parse leaves. -/
def PsPost (wide : Bool) (sort most : Nat) (s : ByteArray) (w : World) (e : Ending) (w' : World) : Prop :=
  (okS wide sort most s = false ∧ e = .returned (.pointer none) ∧ Below w.heap.size w w') ∨
  (∃ b k p, okS wide sort most s = true ∧ Is wide sort b k ∧ s = bs (tx b k) ∧ e = .returned (.pointer (some ⟨p, 0, none⟩)) ∧ isT w' p b k ∧ Below w.heap.size w w')

theorem behind {w w1 : World} {o : Obj} {v : Value} (h : Below (w.heap.size + 1) ((w.alloc o).setCell ⟨w.heap.size, 1, none⟩ v) w1) : Below w.heap.size w w1 :=
  (((Below.refl w.heap.size w).alloc (Nat.le_refl _) o).setCell (p := ⟨w.heap.size, 1, none⟩) (Nat.le_refl _) v).trans (h.mono (by omega))
theorem at_cell {w w1 : World} {t : TypeId} {x y z v : Value} (h : Below (w.heap.size + 1) ((w.alloc (.cells #[x, y, z] t)).setCell ⟨w.heap.size, 1, none⟩ v) w1) : w1.cell? ⟨w.heap.size, 1, none⟩ = some v := by
  rw [h.cell (p := ⟨w.heap.size, 1, none⟩) (by simp)]
  exact World.cell?_setCell_same _ _ _ (cell_of_block (heap_alloc_new w _) 1)

set_option maxHeartbeats 4000000 in
theorem implParse (s : ByteArray) (wide : Bool) (sort most : Nat) (w : World) (hsort : sort ≤ 2) (hmost : most ≤ 1000) (hs : s.size ≤ 1048576) :
    Calls Try.prog 19 #[.string s, .int .i64 (sort : Int), .bool wide, .int .i64 (most : Int)] w (PsPost wide sort most s w) := by
  by_cases hbig : most < s.size
  · have H := Lib.hid (okS_false_big (wide := wide) (sort := sort) hbig)
    have h1 : (most : Int) < (s.size : Int) := by omega
    go_enter Try.func19, Try.ntmps19
    go_wp2_with fail
    go_ret
    exact .inl ⟨H.out, rfl, Below.refl _ _⟩
  · have h1 : (s.size : Int) ≤ (most : Int) := by omega
    have hok := okS_eq (wide := wide) (sort := sort) (show s.size ≤ most by omega)
    have hends : ends wide [sort] s.data.toList 0 = match P wide [sort] s.data.toList with | none => -1 | some (_, r) => (s.size : Int) - r.length := by
      unfold ends
      rw [if_neg (by simp)]
      simp only [Int.toNat_zero, List.drop_zero, Array.length_toList]
      cases P wide [sort] s.data.toList with
      | none => rfl
      | some x => rfl
    have hnew := heap_alloc_new w (.cells #[.string s, .int .i64 0, .bool wide] 59)
    have hread := Lib.hid (implRead s (by omega) wide w.heap.size s.size sort 0 (w.alloc (.cells #[.string s, .int .i64 0, .bool wide] 59)) hsort (by omega) (by omega) (cell_of_block hnew 0) (cell_of_block hnew 1) (cell_of_block hnew 2) (frozen_of_block hnew 1))
    have HO := Lib.hid hok; have HE := Lib.hid hends
    clear hok hends hnew
    go_enter Try.func19, Try.ntmps19
    go_wp2_with fail
    refine (hread.out).mono ?_
    rintro e w1 (⟨hP, rfl, a', hb⟩ | ⟨b, k, r, p, hP, rfl, hin, hb⟩)
    · have H := Lib.hid (show okS wide sort most s = false by
        rw [List.drop_zero] at hP
        rw [HO.out, HE.out, hP]; first | (simp; done) | (simp; omega))
      clear hP
      rw [show (w.alloc (.cells #[.string s, .int .i64 0, .bool wide] 59)).heap.size = w.heap.size + 1 by simp] at hb
      have hb' := behind hb
      go_wp2_with fail
      go_ret
      exact .inl ⟨H.out, rfl, hb'⟩
    · rw [List.drop_zero] at hP
      obtain ⟨b', k', ht', hi, hl⟩ := P_some hP
      cases ht'
      have hlen : (s.size : Int) - r.length = (tx b k).length := by
        have := congrArg List.length hl
        simp only [List.length_append, Array.length_toList] at this
        have hz : s.data.size = s.size := rfl
        omega
      have hE : ends wide [sort] s.data.toList 0 = (tx b k).length := by rw [HE.out, hP]; exact hlen
      rw [show (w.alloc (.cells #[.string s, .int .i64 0, .bool wide] 59)).heap.size = w.heap.size + 1 by simp] at hb hin
      have hc := at_cell hb
      have hb' := Lib.hid (behind hb)
      rw [Nat.zero_add] at hc
      have hT : isT w1 p b k := inW_mono (fun _ _ => trivial) hin
      have HT := Lib.hid hT
      by_cases hq : (tx b k).length = s.size
      · have g : ((((tx b k).length : Nat) : Int) == (s.size : Int)) = true := by simp [hq]
        have H := Lib.hid (show okS wide sort most s = true by rw [HO.out, hE, hq]; simp)
        have HS := Lib.hid (show s = bs (tx b k) by
          refine bs_of ?_
          have : r = [] := List.length_eq_zero_iff.1 (by omega)
          rw [hl, this, List.append_nil])
        rw [hq] at hc
        clear hP hl hlen hE hq hT hin
        go_wp2_with fail
        go_ret
        exact .inr ⟨b, k, p, H.out, hi, HS.out, rfl, HT.out, hb'.out⟩
      · have g : ((((tx b k).length : Nat) : Int) == (s.size : Int)) = false := by simp; omega
        have H := Lib.hid (show okS wide sort most s = false by rw [HO.out, hE]; simp; omega)
        clear hP hl hlen hE hT hin
        go_wp2_with fail
        go_ret
        exact .inl ⟨H.out, rfl, hb'.out⟩
theorem implParseWideProg (s : ByteArray) (w : World) (hs : s.size ≤ 1048576) : Calls Try.prog 12 #[.string s] w (PsPost true 2 1000 s w) := by
  have hp := Lib.hid (implParse s true 2 1000 w (by omega) (by omega) hs)
  go_enter Try.func12, Try.ntmps12
  go_wp2_with fail
  refine (hp.out).mono ?_
  rintro e w1 (⟨h, rfl, hb⟩ | ⟨b, k, p, h, hi, hs', rfl, hT, hb⟩)
  · have H := Lib.hid h
    clear h
    go_wp2_with fail
    go_ret
    exact .inl ⟨H.out, rfl, hb⟩
  · have H := Lib.hid h; have HS := Lib.hid hs'; have HT := Lib.hid hT
    clear h hs' hT
    go_wp2_with fail
    go_ret
    exact .inr ⟨b, k, p, H.out, hi, HS.out, rfl, HT.out, hb⟩
theorem implWideProgramValid (s : ByteArray) (w : World) (hs : s.size ≤ 1048576) : Calls Try.prog 8 #[.string s] w fun e w' => e = .returned (.bool (okS true 2 1000 s)) ∧ Below w.heap.size w w' := by
  have hp := Lib.hid (implParseWideProg s w hs)
  go_enter Try.func8, Try.ntmps8
  go_wp2_with fail
  refine (hp.out).mono ?_
  rintro e w1 (⟨h, rfl, hb⟩ | ⟨b, k, p, h, hi, hs', rfl, hT, hb⟩)
  · have H := Lib.hid h
    clear h
    go_wp2_with fail
    go_ret
    exact ⟨by rw [H.out]; rfl, hb⟩
  · have H := Lib.hid h
    clear h hs' hT
    go_wp2_with fail
    go_ret
    exact ⟨by rw [H.out]; rfl, hb⟩
theorem specWideProgramValid (s : ByteArray) (w : World) (hs : s.size ≤ 1048576) : Calls Try.prog 6 #[.string s] w fun e w' => e = .returned (.bool (okS true 2 1000 s)) ∧ Below w.heap.size w w' := by
  by_cases hbig : s.size ≤ 1000
  · have H := Lib.hid (okS_eq (wide := true) (sort := 2) hbig)
    have h1 : (s.size : Int) ≤ 1000 := by omega
    have hc := Lib.hid (specProgAny s hs true 0 w (by omega))
    obtain ⟨r, hr⟩ : ∃ r, ends true [2] s.data.toList 0 = r := ⟨_, rfl⟩
    rw [hr] at hc H
    clear hr
    go_enter Try.func6, Try.ntmps6
    go_wp2_with fail
    refine (hc.out).mono ?_
    rintro e w1 ⟨rfl, hb⟩
    by_cases hq : r = s.size
    · have g : (r == (s.size : Int)) = true := by simp [hq]
      have HQ := Lib.hid hq
      clear hq
      go_wp2_with fail
      go_ret
      exact ⟨by rw [H.out]; simp [HQ.out], hb⟩
    · have g : (r == (s.size : Int)) = false := by simp [hq]
      have HQ := Lib.hid hq
      clear hq
      go_wp2_with fail
      go_ret
      exact ⟨by rw [H.out]; simp [HQ.out], hb⟩
  · have H := Lib.hid (okS_false_big (wide := true) (sort := 2) (show 1000 < s.size by omega))
    have h1 : decide ((s.size : Int) ≤ 1000) = false := by simp; omega
    go_enter Try.func6, Try.ntmps6
    go_wp2_with fail
    go_ret
    exact ⟨by rw [H.out]; rfl, Below.refl _ _⟩
end Go.Proofs.Ytnhdnfanjefglaa.Ps
