/- Contracts: which letters are allowed; agreement of two states; the test that says it, and its truth. -/
import Derived.Test.YtaimlfhbcgocnaaDoorVars
import Derived.Test.YtaimlfhbcgocnaaDoorVal
import Derived.Test.YtaimlfhbcgocnaaDoorTurnl
import Derived.Test.YtaimlfhbcgocnaaDoorVar
import Derived.Deep.QuietTactic
import Derived.BigQuiet
namespace Go.Proofs.YtaimlfhbcgocnaaDoor.Ag
open Go.RowKit Go.Deep Go.Sort Go.Proofs.YtaimlfhbcgocnaaDoor.Pl Go.Proofs.YtaimlfhbcgocnaaDoor.Bi Go.Proofs.YtaimlfhbcgocnaaDoor.Fi Go.Proofs.YtaimlfhbcgocnaaDoor.Ed Go.Proofs.YtaimlfhbcgocnaaDoor.Ps Go.Proofs.YtaimlfhbcgocnaaDoor.Sw Go.Proofs.YtaimlfhbcgocnaaDoor.St Go.Proofs.YtaimlfhbcgocnaaDoor.En Go.Proofs.YtaimlfhbcgocnaaDoor.Vl Go.Proofs.YtaimlfhbcgocnaaDoor.Vs Go.Proofs.YtaimlfhbcgocnaaDoor.Va Go.Proofs.YtaimlfhbcgocnaaDoor.Nu
set_option linter.unusedVariables false

/-! ### Plain -/
def eight : List (List UInt8) := [[], [120], [121], [122], [120, 121], [120, 122], [121, 122], [120, 121, 122]]
def V (l : List UInt8) : Bool := eight.contains l
/-- Letters behind a last one, in order. -/
def okV (last : Nat) : List UInt8 → Bool
  | [] => true
  | c :: r => decide (last < c.toNat) && decide (c.toNat ≤ 122) && okV c.toNat r
theorem okV_step {n : Nat} {c : UInt8} {r : List UInt8} (h : okV n (c :: r) = true) : n < c.toNat ∧ c.toNat ≤ 122 ∧ okV c.toNat r = true := by
  simp only [okV, Bool.and_eq_true, decide_eq_true_eq] at h
  exact ⟨h.1.1, h.1.2, h.2⟩
theorem ok122 {r : List UInt8} (h : okV 122 r = true) : r = [] := by
  cases r with
  | nil => rfl
  | cons c r => have := okV_step h; omega
theorem ok121 {r : List UInt8} (h : okV 121 r = true) : r = [] ∨ r = [122] := by
  cases r with
  | nil => exact .inl rfl
  | cons c r =>
    have h1 := okV_step h
    obtain rfl : c = 122 := byte_eq (by decide) (show c.toNat = 122 by omega)
    exact .inr (by rw [ok122 h1.2.2])
theorem ok120 {r : List UInt8} (h : okV 120 r = true) : r = [] ∨ r = [121] ∨ r = [122] ∨ r = [121, 122] := by
  cases r with
  | nil => exact .inl rfl
  | cons c r =>
    have h1 := okV_step h
    rcases (show c.toNat = 121 ∨ c.toNat = 122 by omega) with e | e
    · obtain rfl : c = 121 := byte_eq (by decide) e
      rcases ok121 h1.2.2 with e | e
      · exact .inr (.inl (by rw [e]))
      · exact .inr (.inr (.inr (by rw [e])))
    · obtain rfl : c = 122 := byte_eq (by decide) e
      exact .inr (.inr (.inl (by rw [ok122 h1.2.2])))
theorem okV_mem {l : List UInt8} (h : okV 119 l = true) : l ∈ eight := by
  cases l with
  | nil => simp [eight]
  | cons c r =>
    have h1 := okV_step h
    rcases (show c.toNat = 120 ∨ c.toNat = 121 ∨ c.toNat = 122 by omega) with e | e | e
    · obtain rfl : c = 120 := byte_eq (by decide) e
      rcases ok120 h1.2.2 with e | e | e | e <;> subst e <;> simp [eight]
    · obtain rfl : c = 121 := byte_eq (by decide) e
      rcases ok121 h1.2.2 with e | e <;> subst e <;> simp [eight]
    · obtain rfl : c = 122 := byte_eq (by decide) e
      rw [ok122 h1.2.2]; simp [eight]
theorem okV_eq (l : List UInt8) : okV 119 l = V l := by
  rw [Bool.eq_iff_iff, V, List.contains_iff_mem]
  refine ⟨okV_mem, fun h => ?_⟩
  have h1 : (eight.all fun l => okV 119 l) = true := by kernel_rfl
  exact List.all_eq_true.1 h1 l h
theorem vars_eq (l : List UInt8) : (varsIn false l == l) = V l := by
  rw [Bool.eq_iff_iff, V, List.contains_iff_mem]
  constructor
  · intro h
    have h := eq_of_beq h
    rw [← h]
    unfold varsIn
    rw [show (names false).data.toList = [120, 121, 122] from rfl]
    cases h0 : occ l 120 <;> cases h1 : occ l 121 <;> cases h2 : occ l 122 <;> simp [h0, h1, h2, eight]
  · intro h
    have h1 : (eight.all fun l => varsIn false l == l) = true := by kernel_rfl
    exact List.all_eq_true.1 h1 l h
theorem V_let {l : List UInt8} (h : V l = true) {c : UInt8} (hc : c ∈ l) : c = 120 ∨ c = 121 ∨ c = 122 := by
  rw [V, List.contains_iff_mem] at h
  have h1 : (eight.all fun l => l.all fun c => c == 120 || c == 121 || c == 122) = true := by kernel_rfl
  have h2 := List.all_eq_true.1 (List.all_eq_true.1 h1 l h) c hc
  simpa [or_assoc] using h2
theorem V_len {l : List UInt8} (h : V l = true) : l.length ≤ 3 := by
  rw [V, List.contains_iff_mem] at h
  have h1 : (eight.all fun l => decide (l.length ≤ 3)) = true := by kernel_rfl
  simpa using List.all_eq_true.1 h1 l h
/-- A state's value of a variable. -/
def dg (n i : Nat) : Int := if n = 0 then sx i else if n = 1 then sy i else sz i
def agB (l : List UInt8) (i j : Nat) : Bool := l.all fun c => dg (slotOf c.toNat) i == dg (slotOf c.toNat) j
/-- The values of two states. -/
def ev (i j : Nat) : Nat → Int := fun n => if n < 3 then dg n i else dg (n - 3) j
theorem dg_rng (n : Nat) {i : Nat} (h : i < 27) : 0 ≤ dg n i ∧ dg n i ≤ 2 := by
  have := s_range (i := (i : Int)) (by omega) (by omega)
  unfold dg
  split
  · omega
  · split <;> omega
theorem ev_rng {i j : Nat} (hi : i < 27) (hj : j < 27) : rng (ev i j) := by
  intro n
  unfold ev
  split
  · exact dg_rng _ hi
  · exact dg_rng _ hj
/-- The test that two states agree. -/
def agT : List UInt8 → List UInt8
  | [] => [116]
  | c :: r => 38 :: 61 :: c :: (c - 32) :: agT r
theorem agT_len : ∀ l : List UInt8, (agT l).length = 4 * l.length + 1
  | [] => rfl
  | c :: r => by simp [agT, agT_len r]; omega
theorem agT_ok {l : List UInt8} (h : V l = true) : okS true 1 200 (bs (agT l)) = true := by
  rw [V, List.contains_iff_mem] at h
  have h1 : (eight.all fun l => okS true 1 200 (bs (agT l))) = true := by kernel_rfl
  exact List.all_eq_true.1 h1 l h

/-! ### The program -/
set_option maxHeartbeats 1000000 in
theorem implLetters (s : ByteArray) (w : World) (hs : s.size ≤ maxLen) :
    Calls Tryd.prog 9 #[.string s] w fun e w' => e = .returned (.bool (V s.data.toList)) ∧ w = w' := by
  unfold maxLen at hs
  rw [← okV_eq]
  obtain ⟨R, hR⟩ : ∃ R, okV 119 s.data.toList = R := ⟨_, rfl⟩
  rw [hR]
  have HR := Lib.hid hR
  clear hR
  go_enter Tryd.func9, Tryd.ntmps9
  go_wp2
  go_loop [3, 7] (fun last i => ∃ k n : Nat, k ≤ s.size ∧ n ≤ 255 ∧ i = .int .i64 k ∧ last = .int .u8 n ∧ okV n (s.data.toList.drop k) = R) (fun _ i => s.size - (intOf i).toNat)
  case atStart => exact ⟨0, 119, Nat.zero_le _, by omega, rfl, rfl, HR.out⟩
  case round =>
    obtain ⟨k, n, hk, hn, rfl, rfl, hg⟩ := hrel
    by_cases hlt : k < s.size
    · have hlt' : (k : Int) < (s.size : Int) := by omega
      rw [drop_at hlt] at hg
      simp only [okV] at hg
      by_cases h1 : n < s[k].toNat
      · by_cases h2 : s[k].toNat ≤ 122
        · have HG := Lib.hid (show okV s[k].toNat (s.data.toList.drop (k + 1)) = R by rw [← hg]; simp [h1, h2])
          have g1 : (n : Int) < (s[k].toNat : Int) := by omega
          have g2 : (s[k].toNat : Int) ≤ 122 := by omega
          have hb : s[k].toNat ≤ 255 := by omega
          clear h1 h2 hg
          go_wp2
          go_round
          case rel => exact ⟨k + 1, s[k].toNat, by omega, hb, by go_num, rfl, HG.out⟩
          case measure => simp [intOf]; omega
        · have HG := Lib.hid (show R = false by rw [← hg]; simp [h2])
          have g1 : (n : Int) < (s[k].toNat : Int) := by omega
          have g2 : (122 : Int) < (s[k].toNat : Int) := by omega
          clear h1 h2 hg
          go_wp2
          go_ret
          exact ⟨by rw [HG.out]; rfl, rfl⟩
      · have HG := Lib.hid (show R = false by rw [← hg]; simp [h1])
        have g1 : (s[k].toNat : Int) ≤ (n : Int) := by omega
        clear h1 hg
        go_wp2
        go_ret
        exact ⟨by rw [HG.out]; rfl, rfl⟩
    · obtain rfl : k = s.size := by omega
      have HG := Lib.hid (show R = true by rw [← hg, List.drop_of_length_le (by simp)]; rfl)
      clear hg
      go_wp2
      go_ret
      exact ⟨by rw [HG.out]; rfl, rfl⟩
def strideAt (w : World) : Prop := w.cell? ⟨0, 0, none⟩ = some (.int .i64 1) ∧ w.cell? ⟨0, 1, none⟩ = some (.int .i64 3) ∧ w.cell? ⟨0, 2, none⟩ = some (.int .i64 9)
theorem stride_below {w w' : World} (h : strideAt w) (hb : Below w.heap.size w w') : strideAt w' := by
  have hl := block_lt_of_cell h.1
  exact ⟨(hb.cell (p := ⟨0, 0, none⟩) hl).trans h.1, (hb.cell (p := ⟨0, 1, none⟩) hl).trans h.2.1, (hb.cell (p := ⟨0, 2, none⟩) hl).trans h.2.2⟩
theorem slot_xyz {c : UInt8} (n : Nat) (h : c.toNat = 120 + n) (hn : n < 3) (w : World) : Calls Tryd.prog 20 #[.int .u8 (c.toNat : Int)] w fun e w' => e = .returned (.int .i64 (n : Int)) ∧ w = w' :=
  (implSlot c w (by simp [vrB]; omega)).mono fun e w' k => ⟨by rw [k.1, show slotOf c.toNat = n by unfold slotOf; rw [if_pos (by omega)]; omega], k.2.symm⟩
set_option maxHeartbeats 2000000 in
theorem implAgree (s : ByteArray) (i j : Nat) (w : World) (hi : i < 27) (hj : j < 27) (hV : V s.data.toList = true) (hst : strideAt w) :
    Calls Tryd.prog 12 #[.string s, .int .i64 (i : Int), .int .i64 (j : Int)] w fun e w' => e = .returned (.bool (agB s.data.toList i j)) ∧ ∃ m, w' = w.drewN m := by
  obtain ⟨c0, c1, c2⟩ := hst
  have hlen := V_len hV
  have hs : s.size ≤ 3 := by simpa using hlen
  have HLET := Lib.hid (fun (k : Nat) (hk : k < s.size) => V_let hV (List.mem_of_getElem? (byte_at s k hk)))
  have HL := Lib.hid (rfl : agB s.data.toList i j = agB s.data.toList i j)
  obtain ⟨R, hR⟩ : ∃ R, agB s.data.toList i j = R := ⟨_, rfl⟩
  rw [hR]
  have HR := Lib.hid hR
  clear hR hV hlen HL
  go_enter Tryd.func12, Tryd.ntmps12
  go_wp2_with fail
  go_loopw [11] (fun u wr => ∃ k m : Nat, k ≤ s.size ∧ u = .int .i64 k ∧ agB (s.data.toList.drop k) i j = R ∧ wr = w.drewN m) (fun u _ => s.size - (intOf u).toNat)
  case atStart => exact ⟨0, 0, Nat.zero_le _, rfl, HR.out, rfl⟩
  case round =>
    obtain ⟨k, m, hk, rfl, hg, rfl⟩ := hrel
    by_cases hlt : k < s.size
    · have hlt' : (k : Int) < (s.size : Int) := by omega
      rw [drop_at hlt] at hg
      simp only [agB, List.all_cons] at hg
      rcases HLET.out k hlt with hc | hc | hc
      · have hn : s[k].toNat = 120 + 0 := by rw [hc]; rfl
        have HS := Lib.hid (fun w => slot_xyz 0 hn (by omega) w)
        have hsl : slotOf s[k].toNat = 0 := by rw [hn]; rfl
        rw [hsl, show dg 0 i = (i : Int) % 3 by simp [dg, sx], show dg 0 j = (j : Int) % 3 by simp [dg, sx]] at hg
        by_cases he : (i : Int) % 3 = (j : Int) % 3
        · have HG := Lib.hid (show agB (s.data.toList.drop (k + 1)) i j = R by rw [← hg]; simp [he, agB])
          have g : ((i : Int) % 3 != (j : Int) % 3) = false := by simp [he]
          clear hg he hc hn hsl
          go_wp2_with fail
          refine (HS.out _).mono ?_
          rintro e w1 ⟨rfl, rfl⟩
          go_wp2_with fail
          go_quiet (fail)
          go_wp2_with fail
          go_roundw
          case rel => exact ⟨k + 1, _, by omega, by go_num, HG.out, by first | rfl | exact World.drewN_drewN _ _ _⟩
          case measure => simp [intOf]; omega
        · have HG := Lib.hid (show R = false by rw [← hg]; simp [he])
          have g : ((i : Int) % 3 != (j : Int) % 3) = true := by simp [he]
          clear hg he hc hn hsl
          go_wp2_with fail
          refine (HS.out _).mono ?_
          rintro e w1 ⟨rfl, rfl⟩
          go_wp2_with fail
          go_quiet (fail)
          go_wp2_with fail
          go_ret
          exact ⟨by rw [HG.out]; rfl, _, by first | rfl | exact World.drewN_drewN _ _ _⟩
      · have hn : s[k].toNat = 120 + 1 := by rw [hc]; rfl
        have HS := Lib.hid (fun w => slot_xyz 1 hn (by omega) w)
        have hsl : slotOf s[k].toNat = 1 := by rw [hn]; rfl
        rw [hsl, show dg 1 i = (i : Int) / 3 % 3 by simp [dg, sy], show dg 1 j = (j : Int) / 3 % 3 by simp [dg, sy]] at hg
        by_cases he : (i : Int) / 3 % 3 = (j : Int) / 3 % 3
        · have HG := Lib.hid (show agB (s.data.toList.drop (k + 1)) i j = R by rw [← hg]; simp [he, agB])
          have g : ((i : Int) / 3 % 3 != (j : Int) / 3 % 3) = false := by simp [he]
          clear hg he hc hn hsl
          go_wp2_with fail
          refine (HS.out _).mono ?_
          rintro e w1 ⟨rfl, rfl⟩
          go_wp2_with fail
          go_quiet (fail)
          go_wp2_with fail
          go_roundw
          case rel => exact ⟨k + 1, _, by omega, by go_num, HG.out, by first | rfl | exact World.drewN_drewN _ _ _⟩
          case measure => simp [intOf]; omega
        · have HG := Lib.hid (show R = false by rw [← hg]; simp [he])
          have g : ((i : Int) / 3 % 3 != (j : Int) / 3 % 3) = true := by simp [he]
          clear hg he hc hn hsl
          go_wp2_with fail
          refine (HS.out _).mono ?_
          rintro e w1 ⟨rfl, rfl⟩
          go_wp2_with fail
          go_quiet (fail)
          go_wp2_with fail
          go_ret
          exact ⟨by rw [HG.out]; rfl, _, by first | rfl | exact World.drewN_drewN _ _ _⟩
      · have hn : s[k].toNat = 120 + 2 := by rw [hc]; rfl
        have HS := Lib.hid (fun w => slot_xyz 2 hn (by omega) w)
        have hsl : slotOf s[k].toNat = 2 := by rw [hn]; rfl
        rw [hsl, show dg 2 i = (i : Int) / 9 % 3 by simp [dg, sz]; omega, show dg 2 j = (j : Int) / 9 % 3 by simp [dg, sz]; omega] at hg
        by_cases he : (i : Int) / 9 % 3 = (j : Int) / 9 % 3
        · have HG := Lib.hid (show agB (s.data.toList.drop (k + 1)) i j = R by rw [← hg]; simp [he, agB])
          have g : ((i : Int) / 9 % 3 != (j : Int) / 9 % 3) = false := by simp [he]
          clear hg he hc hn hsl
          go_wp2_with fail
          refine (HS.out _).mono ?_
          rintro e w1 ⟨rfl, rfl⟩
          go_wp2_with fail
          go_quiet (fail)
          go_wp2_with fail
          go_roundw
          case rel => exact ⟨k + 1, _, by omega, by go_num, HG.out, by first | rfl | exact World.drewN_drewN _ _ _⟩
          case measure => simp [intOf]; omega
        · have HG := Lib.hid (show R = false by rw [← hg]; simp [he])
          have g : ((i : Int) / 9 % 3 != (j : Int) / 9 % 3) = true := by simp [he]
          clear hg he hc hn hsl
          go_wp2_with fail
          refine (HS.out _).mono ?_
          rintro e w1 ⟨rfl, rfl⟩
          go_wp2_with fail
          go_quiet (fail)
          go_wp2_with fail
          go_ret
          exact ⟨by rw [HG.out]; rfl, _, by first | rfl | exact World.drewN_drewN _ _ _⟩
    · obtain rfl : k = s.size := by omega
      have HG := Lib.hid (show R = true by rw [← hg, List.drop_of_length_le (by simp)]; rfl)
      clear hg
      go_wp2_with fail
      go_ret
      exact ⟨by rw [HG.out]; rfl, _, by first | rfl | exact World.drewN_drewN _ _ _⟩
open Go.Proofs.YtaimlfhbcgocnaaDoor.Tl Go.Proofs.YtaimlfhbcgocnaaDoor.Rl
def agV (s : ByteArray) : Option ByteArray := if V s.data.toList then some (relS (agB s.data.toList) 27) else none
theorem tells_agree (s : ByteArray) (w : World) (b : Nat) (hc : w.cell? ⟨b, 0, none⟩ = some (.string s)) (hV : V s.data.toList = true) (hst : strideAt w) : Tells2 11 #[.pointer (some ⟨b, 0, none⟩)] (agB s.data.toList) w := by
  intro i j hi hj W hb
  have c1 := (hb.cell (p := ⟨b, 0, none⟩) (block_lt_of_cell hc)).trans hc
  have HP := Lib.hid (implAgree s i j W hi hj hV (stride_below hst hb))
  show Calls Tryd.prog 11 #[.int .i64 (i : Int), .int .i64 (j : Int), .pointer (some ⟨b, 0, none⟩)] W _
  clear hc hb hst
  go_enter Tryd.func11, Tryd.ntmps11
  go_wp2_with fail
  refine (HP.out).mono ?_
  rintro e w1 ⟨rfl, m, rfl⟩
  go_wp2_with fail
  go_ret
  exact ⟨rfl, below_drewN (Below.refl _ _) m⟩
set_option maxRecDepth 100000 in
theorem implAgreeOn (s : ByteArray) (w : World) (hr : s.size ≤ 1048576) (hst : strideAt w) : Calls Tryd.prog 5 #[.string s] w fun e w' => e = .returned (strV (agV s)) ∧ Below w.heap.size w w' := by
  have hr' : s.size ≤ maxLen := by unfold maxLen; omega
  have HV := Lib.hid (fun w => implLetters s w hr')
  have hb0 : Below w.heap.size w (w.alloc (.cells #[.string s] 9)) := (Below.refl _ w).alloc (Nat.le_refl _) _
  have HB0 := Lib.hid hb0
  have hst0 := stride_below hst hb0
  clear hb0
  cases h : V s.data.toList with
  | false =>
    have H := Lib.hid (show agV s = none by simp [agV, h])
    rw [h] at HV
    clear h hst hst0
    go_enter Tryd.func5, Tryd.ntmps5
    go_wp2_with fail
    refine (HV.out _).mono ?_
    rintro e w1 ⟨rfl, rfl⟩
    go_wp2_with fail
    exact bodyPost_ret (v := .tuple #[.string ⟨#[]⟩, .bool false]) (by simp [results, Tryd.results5, go_sem]) rfl ⟨by rw [H.out]; rfl, HB0.out⟩
  | true =>
    have H := Lib.hid (show agV s = some _ by simp only [agV, h]; rfl)
    rw [h] at HV
    have HT := Lib.hid (tells_agree s (w.alloc (.cells #[.string s] 9)) w.heap.size (by simp [World.cell?_alloc_at]) h hst0)
    have HM := Lib.hid (makeRel 11 #[.pointer (some ⟨w.heap.size, 0, none⟩)] _ _ (fun _ _ => by simp [go_sem]) HT.out)
    obtain ⟨t, ht⟩ : ∃ t, relS (agB s.data.toList) 27 = t := ⟨_, rfl⟩
    rw [ht] at HM H
    clear h ht HT hst hst0
    go_enter Tryd.func5, Tryd.ntmps5
    go_wp2_with fail
    refine (HV.out _).mono ?_
    rintro e w1 ⟨rfl, rfl⟩
    go_wp2_with fail
    refine (HM.out).mono ?_
    rintro e w2 ⟨rfl, hb2⟩
    have HB := Lib.hid (HB0.out.trans (hb2.mono (by simp)))
    clear hb2
    go_wp2_with fail
    exact bodyPost_ret (v := .tuple #[.string t, .bool true]) (by simp [results, Tryd.results5, go_sem]) rfl ⟨by rw [H.out]; rfl, HB.out⟩

/-! ### The truth of the test -/
theorem is_leaf {c : UInt8} (h : vrB true c.toNat = true) : Is true 0 c .nil := ⟨[], by simp [wants, h], rfl⟩
theorem val_c (i j : Nat) {c : UInt8} (h : c = 120 ∨ c = 121 ∨ c = 122) : val (ev i j) c .nil = dg (slotOf c.toNat) i ∧ val (ev i j) (c - 32) .nil = dg (slotOf c.toNat) j ∧ vrB true c.toNat = true ∧ vrB true (c - 32).toNat = true := by
  rcases h with h | h | h <;> subst h <;> refine ⟨?_, ?_, rfl, rfl⟩ <;> (rw [val_leaf_var (by rfl)]; rfl)
abbrev envV (i j : Nat) : Value := env6 (ev i j 0) (ev i j 1) (ev i j 2) (ev i j 3) (ev i j 4) (ev i j 5)
set_option maxRecDepth 100000 in
set_option maxHeartbeats 4000000 in
/-- At '=', two letters. -/
theorem holdsEq (s : ByteArray) (hs : s.size ≤ 1000) (i j : Nat) (hi : i < 27) (hj : j < 27) (c : UInt8) (hc : c = 120 ∨ c = 121 ∨ c = 122) (a : Nat) (r : List UInt8) (w : World) (hd : s.data.toList.drop a = 61 :: c :: (c - 32) :: r) :
    Calls Tryd.prog 25 #[.string s, .int .i64 (a : Int), envV i j] w fun e w' => e = .returned (.tuple #[.bool (dg (slotOf c.toNat) i == dg (slotOf c.toNat) j), .int .i64 ((a : Int) + 3)]) ∧ Below w.heap.size w w' := by
  obtain ⟨v1, v2, e1, e2⟩ := val_c i j hc
  have hlen : a + 3 ≤ s.size := by
    have h1 := congrArg List.length hd
    simp at h1
    omega
  have hlt : a < s.size := by omega
  have h0 : s[a] = 61 := by
    have h1 := drop_at hlt
    rw [hd] at h1
    exact ((List.cons.inj h1).1).symm
  have d1 : s.data.toList.drop (a + 1) = tx c .nil ++ ((c - 32) :: r) := by
    have h1 := congrArg (List.drop 1) hd
    rw [List.drop_drop] at h1
    exact h1
  have d2 : s.data.toList.drop (a + 2) = tx (c - 32) .nil ++ r := by
    have h1 := congrArg (List.drop 2) hd
    rw [List.drop_drop] at h1
    exact h1
  have H1 := Lib.hid (fun w => specValue s hs true (ev i j) (ev_rng hi hj) 0 c .nil (a + 1) _ w (Nat.le_refl _) (is_leaf e1) d1)
  have H2 := Lib.hid (fun w => specValue s hs true (ev i j) (ev_rng hi hj) 0 (c - 32) .nil (a + 2) _ w (Nat.le_refl _) (is_leaf e2) d2)
  rw [v1, show ((a + 1 : Nat) : Int) + ((tx c .nil).length : Int) = (a : Int) + 2 by simp [tx, F.text]; omega, show ((a + 1 : Nat) : Int) = (a : Int) + 1 by omega] at H1
  rw [v2, show ((a + 2 : Nat) : Int) + ((tx (c - 32) .nil).length : Int) = (a : Int) + 3 by simp [tx, F.text]; omega, show ((a + 2 : Nat) : Int) = (a : Int) + 2 by omega] at H2
  have g1 : ((s[a].toNat : Int) == 116) = false := by rw [h0]; rfl
  have g2 : ((s[a].toNat : Int) == 102) = false := by rw [h0]; rfl
  have g3 : ((s[a].toNat : Int) == 61) = true := by rw [h0]; rfl
  have g4 : ((s[a].toNat : Int) == 60) = false := by rw [h0]; rfl
  have hlt' : (a : Int) < (s.size : Int) := by omega
  have hs' : (s.size : Int) ≤ 1000 := by omega
  obtain ⟨X, hX⟩ : ∃ X, dg (slotOf c.toNat) i = X := ⟨_, rfl⟩
  obtain ⟨Y, hY⟩ : ∃ X, dg (slotOf c.toNat) j = X := ⟨_, rfl⟩
  rw [hX] at H1 ⊢
  rw [hY] at H2 ⊢
  clear hd h0 d1 d2 v1 v2 e1 e2 hc hX hY
  unfold envV
  generalize ev i j 0 = q0 at H1 H2 ⊢
  generalize ev i j 1 = q1 at H1 H2 ⊢
  generalize ev i j 2 = q2 at H1 H2 ⊢
  generalize ev i j 3 = q3 at H1 H2 ⊢
  generalize ev i j 4 = q4 at H1 H2 ⊢
  generalize ev i j 5 = q5 at H1 H2 ⊢
  by_cases he : X = Y
  · have gx : (X == Y) = true := by simp [he]
    rw [gx]
    clear he
    go_enter Tryd.func25, Tryd.ntmps25
    go_wp2_with fail
    refine (H1.out _).mono ?_
    rintro e w1 ⟨rfl, hb1⟩
    obtain ⟨c0, c1, c2, c3, c4, c5, hb1'⟩ := env_after hb1
    go_wp2_with fail
    refine (H2.out _).mono ?_
    rintro e w2 ⟨rfl, hb2⟩
    go_wp2_with fail
    exact bodyPost_ret (v := .tuple #[.bool true, .int .i64 ((a : Int) + 3)]) (by simp [results, Tryd.results25, go_sem]) rfl ⟨rfl, grew hb1' hb2⟩
  · have gx : (X == Y) = false := by simp [he]
    rw [gx]
    clear he
    go_enter Tryd.func25, Tryd.ntmps25
    go_wp2_with fail
    refine (H1.out _).mono ?_
    rintro e w1 ⟨rfl, hb1⟩
    obtain ⟨c0, c1, c2, c3, c4, c5, hb1'⟩ := env_after hb1
    go_wp2_with fail
    refine (H2.out _).mono ?_
    rintro e w2 ⟨rfl, hb2⟩
    go_wp2_with fail
    exact bodyPost_ret (v := .tuple #[.bool false, .int .i64 ((a : Int) + 3)]) (by simp [results, Tryd.results25, go_sem]) rfl ⟨rfl, grew hb1' hb2⟩
set_option maxRecDepth 100000 in
set_option maxHeartbeats 4000000 in
theorem holdsAll (s : ByteArray) (hs : s.size ≤ 1000) (i j : Nat) (hi : i < 27) (hj : j < 27) : ∀ (l : List UInt8) (a : Nat) (w : World), (∀ c ∈ l, c = 120 ∨ c = 121 ∨ c = 122) → s.data.toList.drop a = agT l →
    Calls Tryd.prog 25 #[.string s, .int .i64 (a : Int), envV i j] w fun e w' => e = .returned (.tuple #[.bool (agB l i j), .int .i64 ((a : Int) + ((agT l).length : Int))]) ∧ Below w.heap.size w w' := by
  intro l
  induction l with
  | nil =>
    intro a w _ hd
    have hlen : a + 1 ≤ s.size := by
      have h1 := congrArg List.length hd
      simp [agT] at h1
      omega
    have hlt : a < s.size := by omega
    have h0 : s[a] = 116 := by
      have h1 := drop_at hlt
      rw [hd] at h1
      exact ((List.cons.inj h1).1).symm
    have g1 : ((s[a].toNat : Int) == 116) = true := by rw [h0]; rfl
    have hlt' : (a : Int) < (s.size : Int) := by omega
    have hs' : (s.size : Int) ≤ 1000 := by omega
    clear hd h0
    unfold envV
    go_enter Tryd.func25, Tryd.ntmps25
    go_wp2_with fail
    exact bodyPost_ret (v := .tuple #[.bool true, .int .i64 ((a : Int) + 1)]) (by simp [results, Tryd.results25, go_sem]) rfl ⟨rfl, (Below.refl _ _).alloc (Nat.le_refl _) _⟩
  | cons c r ih =>
    intro a w hc hd
    have hlen : a + 5 ≤ s.size := by
      have h1 := congrArg List.length hd
      have h2 := agT_len r
      simp [agT] at h1
      omega
    have hlt : a < s.size := by omega
    have h0 : s[a] = 38 := by
      have h1 := drop_at hlt
      rw [hd] at h1
      exact ((List.cons.inj h1).1).symm
    have d1 : s.data.toList.drop (a + 1) = 61 :: c :: (c - 32) :: agT r := by
      have h1 := congrArg (List.drop 1) hd
      rw [List.drop_drop] at h1
      exact h1
    have d2 : s.data.toList.drop (a + 4) = agT r := by
      have h1 := congrArg (List.drop 4) hd
      rw [List.drop_drop] at h1
      exact h1
    have H1 := Lib.hid (fun w => holdsEq s hs i j hi hj c (hc c (List.mem_cons_self ..)) (a + 1) _ w d1)
    have H2 := Lib.hid (fun w => ih (a + 4) w (fun x hx => hc x (List.mem_cons_of_mem _ hx)) d2)
    rw [show ((a + 1 : Nat) : Int) + 3 = (a : Int) + 4 by omega, show ((a + 1 : Nat) : Int) = (a : Int) + 1 by omega] at H1
    rw [show ((a + 4 : Nat) : Int) = (a : Int) + 4 by omega] at H2
    have g1 : ((s[a].toNat : Int) == 116) = false := by rw [h0]; rfl
    have g2 : ((s[a].toNat : Int) == 102) = false := by rw [h0]; rfl
    have g3 : ((s[a].toNat : Int) == 61) = false := by rw [h0]; rfl
    have g4 : ((s[a].toNat : Int) == 60) = false := by rw [h0]; rfl
    have g5 : ((s[a].toNat : Int) == 33) = false := by rw [h0]; rfl
    have g6 : ((s[a].toNat : Int) == 38) = true := by rw [h0]; rfl
    have hlt' : (a : Int) < (s.size : Int) := by omega
    have hs' : (s.size : Int) ≤ 1000 := by omega
    have hagb : agB (c :: r) i j = ((dg (slotOf c.toNat) i == dg (slotOf c.toNat) j) && agB r i j) := rfl
    have hll : (((agT (c :: r)).length : Nat) : Int) = 4 + ((agT r).length : Int) := by simp [agT]; omega
    obtain ⟨L, hL⟩ : ∃ L, (agT r).length = L := ⟨_, rfl⟩
    rw [hL] at H2 hll
    rw [hll, show (a : Int) + (4 + (L : Int)) = (a : Int) + 4 + (L : Int) by omega]
    obtain ⟨B, hB⟩ : ∃ B, agB (c :: r) i j = B := ⟨_, rfl⟩
    rw [hB] at hagb ⊢
    obtain ⟨x, hx⟩ : ∃ x, (dg (slotOf c.toNat) i == dg (slotOf c.toNat) j) = x := ⟨_, rfl⟩
    obtain ⟨y, hy⟩ : ∃ y, agB r i j = y := ⟨_, rfl⟩
    rw [hx] at H1 hagb
    rw [hy] at H2 hagb
    have HR := Lib.hid hagb
    clear hd h0 d1 d2 ih hx hy hL hll hB hagb hc
    unfold envV at H1 H2 ⊢
    generalize ev i j 0 = q0 at H1 H2 ⊢
    generalize ev i j 1 = q1 at H1 H2 ⊢
    generalize ev i j 2 = q2 at H1 H2 ⊢
    generalize ev i j 3 = q3 at H1 H2 ⊢
    generalize ev i j 4 = q4 at H1 H2 ⊢
    generalize ev i j 5 = q5 at H1 H2 ⊢
    cases x
    · have HR := Lib.hid (show B = false by rw [HR.out]; rfl)
      go_enter Tryd.func25, Tryd.ntmps25
      go_wp2_with fail
      refine (H1.out _).mono ?_
      rintro e w1 ⟨rfl, hb1⟩
      obtain ⟨c0, c1, c2, c3, c4, c5, hb1'⟩ := env_after hb1
      go_wp2_with fail
      refine (H2.out _).mono ?_
      rintro e w2 ⟨rfl, hb2⟩
      go_wp2_with fail
      exact bodyPost_ret (v := .tuple #[.bool (false), .int .i64 ((a : Int) + 4 + (L : Int))]) (by simp [results, Tryd.results25, go_sem]) rfl ⟨by rw [HR.out], grew hb1' hb2⟩
    · have HR := Lib.hid (show B = y by rw [HR.out]; rfl)
      go_enter Tryd.func25, Tryd.ntmps25
      go_wp2_with fail
      refine (H1.out _).mono ?_
      rintro e w1 ⟨rfl, hb1⟩
      obtain ⟨c0, c1, c2, c3, c4, c5, hb1'⟩ := env_after hb1
      go_wp2_with fail
      refine (H2.out _).mono ?_
      rintro e w2 ⟨rfl, hb2⟩
      go_wp2_with fail
      exact bodyPost_ret (v := .tuple #[.bool (y), .int .i64 ((a : Int) + 4 + (L : Int))]) (by simp [results, Tryd.results25, go_sem]) rfl ⟨by rw [HR.out], grew hb1' hb2⟩
end Go.Proofs.YtaimlfhbcgocnaaDoor.Ag
