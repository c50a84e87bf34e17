/- Contracts and law: MirrorWide. -/
import Derived.Test.YtnhdnfanjefglaaRepl
namespace Go.Proofs.Ytnhdnfanjefglaa.Mi
open Go.RowKit Go.Deep Go.Proofs.Ytnhdnfanjefglaa.Pl Go.Proofs.Ytnhdnfanjefglaa.Bi Go.Proofs.Ytnhdnfanjefglaa.Ed Go.Proofs.Ytnhdnfanjefglaa.Ps Go.Proofs.Ytnhdnfanjefglaa.Ro Go.Proofs.Ytnhdnfanjefglaa.Bu Go.Proofs.Ytnhdnfanjefglaa.Oc Go.Proofs.Ytnhdnfanjefglaa.Sp Go.Proofs.Ytnhdnfanjefglaa.Rp
set_option linter.unusedVariables false

def mirV (s : ByteArray) : Option ByteArray := if okS true 2 1000 s then some (mirrored s) else none

set_option maxRecDepth 100000 in
set_option maxHeartbeats 4000000 in
theorem specCase (s : ByteArray) (w : World) (hs : s.size ≤ 1000000) :
    Calls Try.prog 7 #[.string s, .bool true] w fun e w' => e = .returned (.string (mirrored s)) ∧ Below w.heap.size w w' := by
  obtain ⟨W1, c1, hcv, r1, b1⟩ := convMade w s
  have H1 := Lib.hid r1; have H2 := Lib.hid b1
  clear r1 b1
  go_enter Try.func7, Try.ntmps7
  go_wp2_with fail
  go_loopw [6, 15, 33] (fun i _ _ W => ∃ k : Nat, k ≤ s.size ∧ i = .int .i64 (k : Int) ∧ Below w.heap.size w W ∧ rowB W w.heap.size 5 s.size (muTo s k)) (fun i _ _ _ => s.size - (intOf i).toNat)
  case atStart => exact ⟨0, Nat.zero_le _, rfl, H2.out, mu_first H1.out (fun j hj => by omega)⟩
  case round =>
    obtain ⟨k, hk, rfl, hb, hrow⟩ := hrel
    by_cases hlt : k < s.size
    · have hlt' : (k : Int) < (s.size : Int) := by omega
      have hc := hrow.cell hlt
      have hf := hrow.frozen hlt
      have h256 := UInt8.toNat_lt (s[k])
      have HBY := Lib.hid (byt_at hlt)
      have HROW := Lib.hid hrow
      have HB := Lib.hid hb
      clear hrow hb
      by_cases g1 : 120 ≤ s[k].toNat
      · have k1 : (120 : Int) ≤ (s[k].toNat : Int) := by omega
        by_cases g2 : s[k].toNat ≤ 122
        · have k2 : (s[k].toNat : Int) ≤ 122 := by omega
          have HG := Lib.hid (And.intro g1 g2)
          clear g1 g2 h256
          go_wp2_with fail
          go_roundw
          case rel =>
            obtain ⟨q1, q2⟩ := HG.out
            exact ⟨k + 1, by omega, by go_num, HB.out.setCell (p := ⟨w.heap.size, k, none⟩) (Nat.le_refl _) _, mu_set HROW.out (by
              rw [HBY.out]; unfold mir; rw [if_pos ⟨q1, q2⟩]; congr 1; omega)⟩
          case measure => simp [intOf]; omega
        · have k2 : ¬ (s[k].toNat : Int) ≤ 122 := by omega
          have k3 : (88 : Int) ≤ (s[k].toNat : Int) := by omega
          have k4 : ¬ (s[k].toNat : Int) ≤ 90 := by omega
          have HM := Lib.hid (show mir (byt s k).toNat = (byt s k).toNat by rw [HBY.out]; unfold mir; rw [if_neg (by omega), if_neg (by omega)])
          clear g1 g2 h256
          go_wp2_with fail
          go_roundw
          case rel => exact ⟨k + 1, by omega, by go_num, HB.out, mu_keep HROW.out HM.out⟩
          case measure => simp [intOf]; omega
      · have k1 : ¬ (120 : Int) ≤ (s[k].toNat : Int) := by omega
        by_cases g3 : 88 ≤ s[k].toNat
        · have k3 : (88 : Int) ≤ (s[k].toNat : Int) := by omega
          by_cases g4 : s[k].toNat ≤ 90
          · have k4 : (s[k].toNat : Int) ≤ 90 := by omega
            have HG := Lib.hid (And.intro g3 g4)
            clear g1 g3 g4 h256
            go_wp2_with fail
            go_roundw
            case rel =>
              obtain ⟨q1, q2⟩ := HG.out
              exact ⟨k + 1, by omega, by go_num, HB.out.setCell (p := ⟨w.heap.size, k, none⟩) (Nat.le_refl _) _, mu_set HROW.out (by
                rw [HBY.out]; unfold mir; rw [if_neg (by omega), if_pos ⟨q1, q2⟩]; congr 1)⟩
            case measure => simp [intOf]; omega
          · have k4 : ¬ (s[k].toNat : Int) ≤ 90 := by omega
            have HM := Lib.hid (show mir (byt s k).toNat = (byt s k).toNat by rw [HBY.out]; unfold mir; rw [if_neg (by omega), if_neg (by omega)])
            clear g1 g3 g4 h256
            go_wp2_with fail
            go_roundw
            case rel => exact ⟨k + 1, by omega, by go_num, HB.out, mu_keep HROW.out HM.out⟩
            case measure => simp [intOf]; omega
        · have k3 : ¬ (88 : Int) ≤ (s[k].toNat : Int) := by omega
          have HM := Lib.hid (show mir (byt s k).toNat = (byt s k).toNat by rw [HBY.out]; unfold mir; rw [if_neg (by omega), if_neg (by omega)])
          clear g1 g3 h256
          go_wp2_with fail
          go_roundw
          case rel => exact ⟨k + 1, by omega, by go_num, HB.out, mu_keep HROW.out HM.out⟩
          case measure => simp [intOf]; omega
    · obtain rfl : k = s.size := by omega
      have hcv2 := convRow (cap := c1) (mu_all hrow)
      have HB := Lib.hid hb
      clear hrow hb
      go_wp2_with fail
      go_ret
      exact ⟨rfl, HB.out⟩

set_option maxRecDepth 100000 in
set_option maxHeartbeats 4000000 in
theorem specMirror (s : ByteArray) (w : World) (hs : s.size ≤ 1048576) :
    Calls Try.prog 4 #[.string s] w fun e w' => e = .returned (strV (mirV s)) ∧ Below w.heap.size w w' := by
  have hv := Lib.hid (specWideProgramValid s w hs)
  cases h : okS true 2 1000 s with
  | false =>
    rw [h] at hv
    have H := Lib.hid (show mirV s = none by simp [mirV, h])
    clear h
    go_enter Try.func4, Try.ntmps4
    go_wp2_with fail
    refine (hv.out).mono ?_
    rintro e w1 ⟨rfl, hb1⟩
    go_wp2_with fail
    exact bodyPost_ret (v := .tuple #[.string ⟨#[]⟩, .bool false]) (by simp [results, Try.results4, go_sem]) rfl ⟨by rw [H.out]; rfl, hb1⟩
  | true =>
    rw [h] at hv
    have hm := (okS_is h).1
    have H := Lib.hid (show mirV s = some (mirrored s) by simp [mirV, h])
    have HC := Lib.hid (fun w => specCase s w (by omega))
    clear h
    go_enter Try.func4, Try.ntmps4
    go_wp2_with fail
    refine (hv.out).mono ?_
    rintro e w1 ⟨rfl, hb1⟩
    have HB1 := Lib.hid hb1
    clear hb1
    go_wp2_with fail
    refine (HC.out _).mono ?_
    rintro e w2 ⟨rfl, hb2⟩
    have HB2 := Lib.hid hb2
    clear hb2
    go_wp2_with fail
    exact bodyPost_ret (v := .tuple #[.string (mirrored s), .bool true]) (by simp [results, Try.results4, go_sem]) rfl ⟨by rw [H.out]; rfl, grew HB1.out HB2.out⟩

theorem letters_made (W : World) : ∀ i, i < 12 → (W.alloc (.cells #[.string ⟨#[120]⟩, .string ⟨#[88]⟩, .string ⟨#[121]⟩, .string ⟨#[89]⟩, .string ⟨#[122]⟩, .string ⟨#[90]⟩, .string ⟨#[88]⟩, .string ⟨#[120]⟩, .string ⟨#[89]⟩, .string ⟨#[121]⟩, .string ⟨#[90]⟩, .string ⟨#[122]⟩] 9)).cell? ⟨W.heap.size, i, none⟩ = some (.string ⟨#[L i]⟩) := by
  have h := World.rowIs_alloc W #[.string ⟨#[120]⟩, .string ⟨#[88]⟩, .string ⟨#[121]⟩, .string ⟨#[89]⟩, .string ⟨#[122]⟩, .string ⟨#[90]⟩, .string ⟨#[88]⟩, .string ⟨#[120]⟩, .string ⟨#[89]⟩, .string ⟨#[121]⟩, .string ⟨#[90]⟩, .string ⟨#[122]⟩] 9 (fun i => .string ⟨#[L i]⟩) (fun i hi => by
    have hi' : i < 12 := hi
    rcases (show i = 0 ∨ i = 1 ∨ i = 2 ∨ i = 3 ∨ i = 4 ∨ i = 5 ∨ i = 6 ∨ i = 7 ∨ i = 8 ∨ i = 9 ∨ i = 10 ∨ i = 11 by omega) with rfl | rfl | rfl | rfl | rfl | rfl | rfl | rfl | rfl | rfl | rfl | rfl <;> rfl)
  exact fun i hi => h.cell (show i < 12 from hi)

set_option maxRecDepth 100000 in
set_option maxHeartbeats 4000000 in
theorem implMirror (s : ByteArray) (w : World) (hs : s.size ≤ 1048576) :
    Calls Try.prog 5 #[.string s] w fun e w' => e = .returned (strV (mirV s)) ∧ Below w.heap.size w w' := by
  have hv := Lib.hid (implWideProgramValid s w hs)
  cases h : okS true 2 1000 s with
  | false =>
    rw [h] at hv
    have H := Lib.hid (show mirV s = none by simp [mirV, h])
    clear h
    go_enter Try.func5, Try.ntmps5
    go_wp2_with fail
    refine (hv.out).mono ?_
    rintro e w1 ⟨rfl, hb1⟩
    go_wp2_with fail
    exact bodyPost_ret (v := .tuple #[.string ⟨#[]⟩, .bool false]) (by simp [results, Try.results5, go_sem]) rfl ⟨by rw [H.out]; rfl, hb1⟩
  | true =>
    rw [h] at hv
    have hm := (okS_is h).1
    have H := Lib.hid (show mirV s = some (mirrored s) by simp [mirV, h])
    clear h
    go_enter Try.func5, Try.ntmps5
    go_wp2_with fail
    refine (hv.out).mono ?_
    rintro e w1 ⟨rfl, hb1⟩
    have HB1 := Lib.hid hb1
    clear hb1
    go_wp2_with fail
    refine (implNewReplacer w1.heap.size 12 _ (letters_made w1)).mono ?_
    rintro e w2 ⟨B, g, c, rfl, hgB, hle, hB, hx, hb2⟩
    have HR := Lib.hid (implReplace B g c hgB s (by omega) w2 hB hx)
    have HB2 := Lib.hid hb2; have HL := Lib.hid hle
    clear hgB hle hB hx hb2
    go_wp2_with fail
    refine (HR.out).mono ?_
    rintro e w3 ⟨rfl, hb3⟩
    have HB3 := Lib.hid hb3
    clear hb3
    go_wp2_with fail
    refine bodyPost_ret (v := .tuple #[.string (mirrored s), .bool true]) (by simp [results, Try.results5, go_sem]) rfl ⟨by rw [H.out]; rfl, ?_⟩
    have hw := HB1.out.size
    have hl : w1.heap.size + 1 ≤ B := by
      have := HL.out
      simpa using this
    exact ((HB1.out.alloc hw _).trans (HB2.out.mono (by simp; omega))).trans (HB3.out.mono (by omega))

set_option maxRecDepth 100000 in
set_option maxHeartbeats 4000000 in
theorem lawMirrorWide (s : ByteArray) (w : World) (hs : s.size ≤ maxLen) : Calls Try.prog 3 #[.string s] w fun e w' => e = .returned (.bool true) ∧ Below w.heap.size w w' := by
  by_cases hb1 : s.size ≤ 1048576
  · have h1 : (s.size : Int) ≤ 1048576 := by omega
    have HA := Lib.hid (fun w => specMirror s w hb1)
    have HB := Lib.hid (fun w => implMirror s w hb1)
    cases h : mirV s with
    | none =>
      rw [h] at HA HB
      simp only [strV] at HA HB
      clear h
      go_enter Try.func3, Try.ntmps3
      go_wp2_with (first
        | (go_at_call 4; refine (HA.out _).mono ?_; rintro e w1 ⟨rfl, hw1⟩)
        | (go_at_call 5; refine (HB.out _).mono ?_; rintro e w2 ⟨rfl, hw2⟩))
      go_ret
      exact ⟨rfl, grew hw1 hw2⟩
    | some r =>
      rw [h] at HA HB
      simp only [strV] at HA HB
      clear h
      go_enter Try.func3, Try.ntmps3
      go_wp2_with (first
        | (go_at_call 4; refine (HA.out _).mono ?_; rintro e w1 ⟨rfl, hw1⟩)
        | (go_at_call 5; refine (HB.out _).mono ?_; rintro e w2 ⟨rfl, hw2⟩))
      go_ret
      exact ⟨rfl, grew hw1 hw2⟩
  · have h1 : (1048576 : Int) < (s.size : Int) := by omega
    go_enter Try.func3, Try.ntmps3
    go_wp2_with fail
    go_ret
    exact ⟨rfl, Below.refl _ _⟩
end Go.Proofs.Ytnhdnfanjefglaa.Mi
