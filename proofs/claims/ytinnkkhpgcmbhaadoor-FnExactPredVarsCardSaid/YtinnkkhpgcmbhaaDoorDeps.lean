/- Contracts and law: the variables on which a set depends (PredVars). -/
import Derived.Test.YtinnkkhpgcmbhaaDoorWith
namespace Go.Proofs.YtinnkkhpgcmbhaaDoor.Dv
open Go.RowKit Go.Deep Go.Sort Go.Proofs.YtinnkkhpgcmbhaaDoor.Bi Go.Proofs.YtinnkkhpgcmbhaaDoor.Ro Go.Proofs.YtinnkkhpgcmbhaaDoor.Se Go.Proofs.YtinnkkhpgcmbhaaDoor.St Go.Proofs.YtinnkkhpgcmbhaaDoor.En Go.Proofs.YtinnkkhpgcmbhaaDoor.Nu Go.Proofs.YtinnkkhpgcmbhaaDoor.Wt
set_option linter.unusedVariables false

def anyTo (f : Nat → Bool) : Nat → Bool
  | 0 => false
  | k + 1 => anyTo f k || f k
theorem any_iff (f : Nat → Bool) : ∀ k, anyTo f k = true ↔ ∃ i, i < k ∧ f i = true
  | 0 => by simp [anyTo]
  | k + 1 => by
    unfold anyTo
    rw [Bool.or_eq_true, any_iff f k]
    constructor
    · rintro (⟨i, h, e⟩ | e)
      · exact ⟨i, by omega, e⟩
      · exact ⟨k, by omega, e⟩
    · rintro ⟨i, h, e⟩
      by_cases hk : i = k
      · exact .inr (hk ▸ e)
      · exact .inl ⟨i, by omega, e⟩
def df (p : ByteArray) (i j : Nat) : Bool := one p i != one p j
theorem wv_wv (v i n : Nat) (hv : v < 3) (hi : i < 27) (hn : n < 3) : wvN v (wvN v i n) 0 = wvN v i 0 := by
  have h1 := wv_nat v hi hn
  have h2 := wv_nat v h1.2 (n := 0) (by omega)
  have h3 := wv_nat v hi (n := 0) (by omega)
  have h4 : wvI v (wvN v i n : Int) (0 : Nat) = wvI v i (0 : Nat) := by
    rw [← h1.1]
    rcases (by omega : v = 0 ∨ v = 1 ∨ v = 2) with rfl | rfl | rfl <;> simp [wvI, ix, sx, sy, sz] <;> omega
  rw [h2.1, h3.1] at h4
  omega
def depS (p : ByteArray) (v : Nat) : Bool := anyTo (fun i => df p i (wvN v i 0)) 27
def row3 (p : ByteArray) (v i : Nat) : Bool := anyTo (fun n => df p i (wvN v i n)) 3
def depI (p : ByteArray) (v : Nat) : Bool := anyTo (row3 p v) 27
theorem dep_eq (p : ByteArray) (v : Nat) (hv : v < 3) : depI p v = depS p v := by
  rw [Bool.eq_iff_iff, depI, depS, any_iff, any_iff]
  constructor
  · rintro ⟨i, hi, h⟩
    obtain ⟨n, hn, h⟩ := (any_iff _ _).1 h
    by_cases h0 : df p i (wvN v i 0) = true
    · exact ⟨i, hi, h0⟩
    · refine ⟨wvN v i n, (wv_nat v hi hn).2, ?_⟩
      rw [wv_wv v i n hv hi hn]
      simp only [df, bne_iff_ne, ne_eq, Decidable.not_not, Bool.not_eq_true] at h h0 ⊢
      rw [← h0]
      exact fun e => h e.symm
  · rintro ⟨i, hi, h⟩
    exact ⟨i, hi, (any_iff _ _).2 ⟨0, by omega, h⟩⟩
def outS (D : Nat → Bool) : Nat → ByteArray
  | 0 => ⟨#[]⟩
  | v + 1 => if D v then outS D v ++ ⟨#[UInt8.ofNat (120 + v)]⟩ else outS D v
theorem out_congr {D E : Nat → Bool} : ∀ k, (∀ v, v < k → D v = E v) → outS D k = outS E k
  | 0, _ => rfl
  | k + 1, h => by unfold outS; rw [out_congr k fun v hv => h v (by omega), h k (by omega)]
theorem out_size (D : Nat → Bool) : ∀ k, (outS D k).size ≤ k
  | 0 => Nat.le_refl _
  | k + 1 => by
    unfold outS
    have := out_size D k
    split
    · simp only [ByteArray.size_append]; show (outS D k).size + 1 ≤ k + 1; omega
    · omega
def varsV (p : ByteArray) : ByteArray := if bitsB p 27 = true then outS (depS p) 3 else ⟨#[]⟩
/-- Two bits that differ, or not. -/
theorem df_bytes {p : ByteArray} {i j : Nat} (hi : i < p.size) (hj : j < p.size) (h : ∀ k (hk : k < p.size), p[k].toNat = 48 ∨ p[k].toNat = 49) :
    ((p[i].toNat : Int) == (p[j].toNat : Int)) = !df p i j := by
  unfold df
  rw [one_at hi, one_at hj]
  rcases h i hi with a | a <;> rcases h j hj with b | b <;> rw [a, b] <;> rfl
theorem boxed {P : Program} {f : FuncId} {args : Array Value} {w : World} {v : Value} {t : TypeId} {x y z : Int} (h : Calls P f args w fun e w' => e = .returned v ∧ box w t x y z = w') : Calls P f args w fun e w' => e = .returned v ∧ Below w.heap.size w w' :=
  h.mono fun _ _ ⟨he, hw⟩ => ⟨he, hw ▸ (Below.refl _ _).alloc (Nat.le_refl _) _⟩
set_option maxRecDepth 100000 in
set_option maxHeartbeats 1000000 in
theorem specPredVars (p : ByteArray) (w : World) (hp : p.size ≤ maxLen) : Calls Tryd.prog 4 #[.string p] w fun e w' => e = .returned (.string (varsV p)) ∧ Below w.heap.size w w' := by
  have HV := Lib.hid (fun w => specPredValid p w hp)
  cases h : bitsB p 27 with
  | false =>
    have H := Lib.hid (show varsV p = ⟨#[]⟩ by simp [varsV, h])
    rw [h] at HV
    clear h
    go_enter Tryd.func4, Tryd.ntmps4
    go_wp2_with fail
    go_loopw [3, 4, 5, 6] (fun o v d i wr => o = .string ⟨#[]⟩ ∧ v = .int .i64 0 ∧ w = wr) (fun _ _ _ _ _ => 0)
    case atStart => exact ⟨rfl, rfl, rfl⟩
    case round =>
      obtain ⟨rfl, rfl, rfl⟩ := hrel
      go_wp2_with fail
      refine (HV.out _).mono ?_
      rintro e w1 ⟨rfl, rfl⟩
      go_wp2_with fail
      go_ret
      exact ⟨by rw [H.out]; rfl, Below.refl _ _⟩
  | true =>
    have H := Lib.hid (show varsV p = outS (depS p) 3 by simp [varsV, h])
    have HS := Lib.hid (bits_size h)
    have HBIT := Lib.hid (fun j hj => bits_bit h (k := j) hj)
    rw [h] at HV
    clear h
    go_enter Tryd.func4, Tryd.ntmps4
    go_wp2_with fail
    go_loopw [3, 4, 5, 6] (fun o v d i wr => ∃ k : Nat, k ≤ 3 ∧ v = .int .i64 k ∧ o = .string (outS (depS p) k) ∧ Below w.heap.size w wr) (fun _ v _ _ _ => 3 - (intOf v).toNat)
    case atStart => exact ⟨0, Nat.zero_le _, rfl, rfl, Below.refl _ _⟩
    case round =>
      obtain ⟨v, hv, rfl, rfl, hb⟩ := hrel
      by_cases hlt : v < 3
      · have hd : decide ((v : Int) < 3) = true := by simp; omega
        go_wp2_with (go_at_call 6; refine (HV.out _).mono ?_; rintro e w1 ⟨rfl, rfl⟩)
        go_loopw [5, 6] (fun d i wr => ∃ k : Nat, k ≤ 27 ∧ i = .int .i64 k ∧ d = .bool (anyTo (fun i => df p i (wvN v i 0)) k) ∧ Below w.heap.size w wr) (fun _ i _ => 27 - (intOf i).toNat)
        case atStart => exact ⟨0, Nat.zero_le _, rfl, rfl, hb⟩
        case round =>
          clear hb
          obtain ⟨i, hi, rfl, rfl, hb⟩ := hrel
          by_cases hli : i < 27
          · have hd2 : decide ((i : Int) < 27) = true := by simp; omega
            cases hA : anyTo (fun i => df p i (wvN v i 0)) i with
            | true =>
              have HN := Lib.hid (show anyTo (fun i => df p i (wvN v i 0)) (i + 1) = true by unfold anyTo; rw [hA]; rfl)
              have HB := Lib.hid hb
              clear hA hb
              go_wp2_with fail
              go_quiet (fail)
              go_wp2_with fail
              go_roundw
              case rel => exact ⟨i + 1, by omega, by go_num, by rw [HN.out], HB.out.trans (Below.mono ⟨rfl, rfl, rfl, Nat.le_refl _, fun _ _ => rfl⟩ HB.out.size)⟩
              case measure => simp [intOf]; omega
            | false =>
              have hw := wv_nat v hli (n := 0) (by omega)
              have HAT := Lib.hid (fun w => boxed (specAt (i : Int) w (by omega) (by omega)))
              have HW := Lib.hid (fun w => specWith v (sx i) (sy i) (sz i) ((0 : Nat) : Int) w hlt)
              have HI := Lib.hid (fun w => boxed (specIndex _ _ _ w (st_ok v i 0 hli (by omega))))
              rw [ix_wv v i 0 hlt hli (by omega)] at HI
              have hw1 : wvN v i 0 < p.size := by have := HS.out; omega
              have hi1 : i < p.size := by have := HS.out; omega
              have hg := df_bytes hi1 hw1 HBIT.out
              have HN := Lib.hid (show anyTo (fun i => df p i (wvN v i 0)) (i + 1) = df p i (wvN v i 0) by unfold anyTo; rw [hA]; rfl)
              obtain ⟨W, hW⟩ : ∃ W, wvN v i 0 = W := ⟨_, rfl⟩
              have hw2 : W < p.size := by omega
              have hg2 : ((p[i].toNat : Int) == (p[W].toNat : Int)) = !df p i W := by simpa only [hW] using hg
              rw [hW] at HI HN
              have HB := Lib.hid hb
              clear hA hb hw hw1 hW hg
              cases hD : df p i W
              all_goals
                rw [hD] at hg2 HN
                simp only [Bool.not_true, Bool.not_false] at hg2
                clear hD
                go_wp2_with fail
                refine wp_region_quiet_below (by kernel_rfl) (by kernel_rfl) ?_
                repeat (go_big_quiet_step (first | (go_at_call 9; exact Calls.regrown_of (HAT.out _)) | (go_at_call 8; exact Calls.regrown_of (HW.out _)) | (go_at_call 7; exact Calls.regrown_of (HI.out _))))
                refine wpQuiet_nil ?_
                intro _ hw'
                obtain ⟨⟨dq, osq⟩, hw''⟩ := hw'
                subst hw''
                go_wp2_with fail
                have hx := below_regrown wr dq osq
                go_roundw
                case rel => exact ⟨i + 1, by omega, by go_num, by rw [HN.out]; show Value.bool (!(_ == _)) = _; rw [hg2]; rfl, HB.out.trans (hx.mono HB.out.size)⟩
                case measure => simp [intOf]; omega
          · obtain rfl : i = 27 := by omega
            have HB := Lib.hid hb
            clear hb
            have HD := Lib.hid (show outS (depS p) (v + 1) = if depS p v then outS (depS p) v ++ ⟨#[UInt8.ofNat (120 + v)]⟩ else outS (depS p) v from rfl)
            have hsz : (outS (depS p) v).size ≤ 3 := by have := out_size (depS p) v; omega
            have HE := Lib.hid (show anyTo (fun i => df p i (wvN v i 0)) 27 = depS p v from rfl)
            rw [HE.out]
            obtain ⟨o, ho⟩ : ∃ o, outS (depS p) v = o := ⟨_, rfl⟩
            rw [ho] at HD hsz ⊢
            clear ho HE
            cases hD : depS p v with
            | false =>
              rw [hD] at HD
              clear hD
              go_wp2_with fail
              go_roundw
              case rel => exact ⟨v + 1, by omega, by go_num, by rw [HD.out]; rfl, HB.out⟩
              case measure => simp [intOf]; omega
            | true =>
              rw [hD] at HD
              clear hD
              rcases (by omega : v = 0 ∨ v = 1 ∨ v = 2) with rfl | rfl | rfl
              all_goals
                go_wp2_with fail
                go_roundw
                case rel => first | exact ⟨0 + 1, by omega, by go_num, by rw [HD.out]; rfl, HB.out⟩ | exact ⟨1 + 1, by omega, by go_num, by rw [HD.out]; rfl, HB.out⟩ | exact ⟨2 + 1, by omega, by go_num, by rw [HD.out]; rfl, HB.out⟩
                case measure => simp [intOf]
      · obtain rfl : v = 3 := by omega
        go_wp2_with fail
        go_ret
        exact ⟨by rw [H.out]; rfl, hb⟩
set_option maxRecDepth 100000 in
set_option maxHeartbeats 1000000 in
theorem implPredVars (p : ByteArray) (w : World) (hp : p.size ≤ maxLen) (hst : strideAt w) : Calls Tryd.prog 5 #[.string p] w fun e w' => e = .returned (.string (varsV p)) ∧ Below w.heap.size w w' := by
  have HV := Lib.hid (fun w => implPredValid p w hp)
  have HX := Lib.hid hst
  clear hst
  cases h : bitsB p 27 with
  | false =>
    have H := Lib.hid (show varsV p = ⟨#[]⟩ by simp [varsV, h])
    rw [h] at HV
    clear h
    go_enter Tryd.func5, Tryd.ntmps5
    go_wp2_with fail
    refine (HV.out _).mono ?_
    rintro e w1 ⟨rfl, rfl⟩
    go_wp2_with fail
    go_ret
    exact ⟨by rw [H.out]; rfl, Below.refl _ _⟩
  | true =>
    have H := Lib.hid (show varsV p = outS (depI p) 3 by rw [out_congr 3 (fun v hv => dep_eq p v hv)]; simp [varsV, h])
    have HS := Lib.hid (bits_size h)
    have HBIT := Lib.hid (fun j hj => bits_bit h (k := j) hj)
    rw [h] at HV
    clear h
    go_enter Tryd.func5, Tryd.ntmps5
    go_wp2_with fail
    refine (HV.out _).mono ?_
    rintro e w1 ⟨rfl, rfl⟩
    go_wp2_with fail
    go_loopw [3, 4, 5, 6, 7] (fun o v d i n wr => ∃ k : Nat, k ≤ 3 ∧ v = .int .i64 k ∧ o = .string (outS (depI p) k) ∧ Below w.heap.size w wr) (fun _ v _ _ _ _ => 3 - (intOf v).toNat)
    case atStart => exact ⟨0, Nat.zero_le _, rfl, rfl, Below.refl _ _⟩
    case round =>
      obtain ⟨v, hv, rfl, rfl, hb⟩ := hrel
      by_cases hlt : v < 3
      · have hd : decide ((v : Int) < 3) = true := by simp; omega
        go_wp2_with fail
        go_loopw [5, 6, 7] (fun d i n wr => ∃ k : Nat, k ≤ 27 ∧ i = .int .i64 k ∧ d = .bool (anyTo (row3 p v) k) ∧ Below w.heap.size w wr) (fun _ i _ _ => 27 - (intOf i).toNat)
        case atStart => exact ⟨0, Nat.zero_le _, rfl, rfl, hb⟩
        case round =>
          clear hb
          obtain ⟨i, hi, rfl, rfl, hb⟩ := hrel
          by_cases hli : i < 27
          · have hd2 : decide ((i : Int) < 27) = true := by simp; omega
            have HA := Lib.hid (show anyTo (row3 p v) (i + 1) = (anyTo (row3 p v) i || anyTo (fun n => df p i (wvN v i n)) 3) from rfl)
            obtain ⟨A, hA⟩ : ∃ A, anyTo (row3 p v) i = A := ⟨_, rfl⟩
            rw [hA] at HA ⊢
            clear hA
            go_wp2_with fail
            go_loopw [5, 7] (fun d n wr => ∃ k : Nat, k ≤ 3 ∧ n = .int .i64 k ∧ d = .bool (A || anyTo (fun n => df p i (wvN v i n)) k) ∧ Below w.heap.size w wr) (fun _ n _ => 3 - (intOf n).toNat)
            case atStart => exact ⟨0, Nat.zero_le _, rfl, by simp [anyTo], hb⟩
            case round =>
              clear hb
              obtain ⟨n, hn, rfl, rfl, hb⟩ := hrel
              by_cases hln : n < 3
              · have hd3 : decide ((n : Int) < 3) = true := by simp; omega
                have HB := Lib.hid hb
                have HN := Lib.hid (show (A || anyTo (fun n => df p i (wvN v i n)) (n + 1)) = ((A || anyTo (fun n => df p i (wvN v i n)) n) || df p i (wvN v i n)) by rw [Bool.or_assoc]; rfl)
                obtain ⟨C, hC⟩ : ∃ C, (A || anyTo (fun n => df p i (wvN v i n)) n) = C := ⟨_, rfl⟩
                rw [hC] at HN ⊢
                have HW := Lib.hid (fun q => implWith v (i : Int) (n : Int) (wr.drewN q) hlt (by omega) (by omega) (by omega) (by omega) (show strideAt (wr.drewN q) from (stride_below HX.out HB.out : strideAt wr)))
                have hw := wv_nat v hli hln
                rw [hw.1] at HW
                have hw1 : wvN v i n < p.size := by have := HS.out; omega
                have hi1 : i < p.size := by have := HS.out; omega
                have hg := df_bytes hi1 hw1 HBIT.out
                obtain ⟨W, hW⟩ : ∃ W, wvN v i n = W := ⟨_, rfl⟩
                have hw2 : W < p.size := by omega
                have hg2 : ((p[i].toNat : Int) == (p[W].toNat : Int)) = !df p i W := by simpa only [hW] using hg
                rw [hW] at HW HN
                clear hb hw hw1 hW hg hC
                cases C with
                | true =>
                  clear hg2 HW
                  go_wp2_with fail
                  go_quiet (fail)
                  go_wp2_with fail
                  go_roundw
                  case rel => exact ⟨n + 1, by omega, by go_num, by rw [HN.out]; rfl, HB.out.trans (Below.mono ⟨rfl, rfl, rfl, Nat.le_refl _, fun _ _ => rfl⟩ HB.out.size)⟩
                  case measure => simp [intOf]; omega
                | false =>
                  cases hD : df p i W
                  all_goals
                    rw [hD] at hg2 HN
                    simp only [Bool.not_true, Bool.not_false] at hg2
                    clear hD
                    go_wp2_with fail
                    go_quiet (first | (go_at_call 11; exact Calls.quiet_of (HW.out _)))
                    go_wp2_with fail
                    go_roundw
                    case rel => exact ⟨n + 1, by omega, by go_num, by rw [HN.out]; show Value.bool (!(_ == _)) = _; rw [hg2]; rfl, HB.out.trans (Below.mono ⟨rfl, rfl, rfl, Nat.le_refl _, fun _ _ => rfl⟩ HB.out.size)⟩
                    case measure => simp [intOf]; omega
              · obtain rfl : n = 3 := by omega
                have HB := Lib.hid hb
                clear hb
                rw [← HA.out]
                obtain ⟨C, hC⟩ : ∃ C, anyTo (row3 p v) (i + 1) = C := ⟨_, rfl⟩
                have HC := Lib.hid hC
                rw [hC]
                clear hC HA
                go_wp2_with fail
                go_roundw
                case rel => exact ⟨i + 1, by omega, by go_num, by rw [HC.out], HB.out⟩
                case measure => simp [intOf]; omega
          · obtain rfl : i = 27 := by omega
            have HB := Lib.hid hb
            clear hb
            have HD := Lib.hid (show outS (depI p) (v + 1) = if depI p v then outS (depI p) v ++ ⟨#[UInt8.ofNat (120 + v)]⟩ else outS (depI p) v from rfl)
            have hsz : (outS (depI p) v).size ≤ 3 := by have := out_size (depI p) v; omega
            have HE := Lib.hid (show anyTo (row3 p v) 27 = depI p v from rfl)
            rw [HE.out]
            obtain ⟨o, ho⟩ : ∃ o, outS (depI p) v = o := ⟨_, rfl⟩
            rw [ho] at HD hsz ⊢
            clear ho HE
            cases hD : depI p v with
            | false =>
              rw [hD] at HD
              clear hD
              go_wp2_with fail
              go_roundw
              case rel => exact ⟨v + 1, by omega, by go_num, by rw [HD.out]; rfl, HB.out⟩
              case measure => simp [intOf]; omega
            | true =>
              rw [hD] at HD
              clear hD
              have u0 : Utf8.encode 120 = ⟨#[120]⟩ := by rfl
              have u1 : Utf8.encode 121 = ⟨#[121]⟩ := by rfl
              have u2 : Utf8.encode 122 = ⟨#[122]⟩ := by rfl
              rcases (by omega : v = 0 ∨ v = 1 ∨ v = 2) with rfl | rfl | rfl
              all_goals
                go_wp2_with fail
                go_roundw
                case rel => first | exact ⟨0 + 1, by omega, by go_num, by rw [HD.out]; rfl, HB.out⟩ | exact ⟨1 + 1, by omega, by go_num, by rw [HD.out]; rfl, HB.out⟩ | exact ⟨2 + 1, by omega, by go_num, by rw [HD.out]; rfl, HB.out⟩
                case measure => simp [intOf]
      · obtain rfl : v = 3 := by omega
        go_wp2_with fail
        go_ret
        exact ⟨by rw [H.out]; rfl, hb⟩
theorem lawPredVars (p : ByteArray) (w : World) (hp : p.size ≤ maxLen) (hst : strideAt w) :
    Calls Tryd.prog 3 #[.string p] w fun e w' => e = .returned (.bool true) ∧ Below w.heap.size w w' := by
  by_cases bigp : p.size ≤ 1048576
  case neg =>
    clear hst
    go_enter Tryd.func3, Tryd.ntmps3
    go_wp2
    go_ret
    exact ⟨rfl, Below.refl _ _⟩
  have HS := Lib.hid (fun w => specPredVars p w hp)
  have HI := Lib.hid (fun w (h : strideAt w) => implPredVars p w hp h)
  have HX := Lib.hid hst
  clear hst
  obtain ⟨r, hr⟩ : ∃ r, varsV p = r := ⟨_, rfl⟩
  rw [hr] at HS HI
  clear hr
  go_enter Tryd.func3, Tryd.ntmps3
  go_wp2_with (first | (go_at_call 4; refine (HS.out _).mono ?_; rintro e w1 ⟨rfl, hb1⟩) | (go_at_call 5; refine (HI.out _ (stride_below HX.out hb1)).mono ?_; rintro e w2 ⟨rfl, hb2⟩))
  go_ret
  exact ⟨by simp, hb1.trans (hb2.mono hb1.size)⟩
end Go.Proofs.YtinnkkhpgcmbhaaDoor.Dv
