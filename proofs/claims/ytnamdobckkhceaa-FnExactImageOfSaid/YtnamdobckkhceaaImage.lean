/- Contracts and law: ImageOf. -/
import Derived.Test.YtnamdobckkhceaaTurnl
namespace Go.Proofs.Ytnamdobckkhceaa.Im
open Go.RowKit Go.Deep Go.Proofs.Ytnamdobckkhceaa.Bi Go.Proofs.Ytnamdobckkhceaa.Ro Go.Proofs.Ytnamdobckkhceaa.Se Go.Proofs.Ytnamdobckkhceaa.Mk Go.Proofs.Ytnamdobckkhceaa.Rl Go.Proofs.Ytnamdobckkhceaa.Nu Go.Proofs.Ytnamdobckkhceaa.Tu Go.Proofs.Ytnamdobckkhceaa.Tl
set_option linter.unusedVariables false

/-- Is u the image of one of the first k states of a set? -/
def imgB (P : Nat → Bool) (R : Nat → Nat → Bool) (k u : Nat) : Bool := (List.range k).any fun i => P i && R i u
theorem img_step (P : Nat → Bool) (R : Nat → Nat → Bool) (k u : Nat) : imgB P R (k + 1) u = (imgB P R k u || (P k && R k u)) := by
  unfold imgB
  rw [List.range_succ, List.any_append]
  simp
theorem img_true {P : Nat → Bool} {R : Nat → Nat → Bool} {k u : Nat} (hk : k < 27) (h1 : P k = true) (h2 : R k u = true) : imgB P R 27 u = true := by
  unfold imgB
  rw [List.any_eq_true]
  exact ⟨k, by simpa using hk, by rw [h1, h2]; rfl⟩
theorem img_more (P : Nat → Bool) (R : Nat → Nat → Bool) (k : Nat) (h : P k = true) : msk (imgB P R k) 27 ||| msk (R k) 27 = msk (imgB P R (k + 1)) 27 := by
  rw [msk_or]
  exact msk_congr fun u _ => by rw [img_step, h, Bool.true_and]
theorem img_same (P : Nat → Bool) (R : Nat → Nat → Bool) (k : Nat) (h : P k = false) : msk (imgB P R (k + 1)) 27 = msk (imgB P R k) 27 := msk_congr fun u _ => by rw [img_step, h, Bool.false_and, Bool.or_false]
/-- An array laid over the head of another one. -/
theorem fold_set : ∀ (l : List Value) (o : Nat) (A : Array Value), ((l.zipIdx o).foldl (fun cs x => cs.setIfInBounds x.2 x.1) A).size = A.size ∧
    ∀ i v, o + l.length ≤ A.size → l[i]? = some v → ((l.zipIdx o).foldl (fun cs x => cs.setIfInBounds x.2 x.1) A)[o + i]? = some v := by
  have out : ∀ (l : List Value) (o : Nat) (A : Array Value) (j : Nat), j < o → ((l.zipIdx o).foldl (fun cs x => cs.setIfInBounds x.2 x.1) A)[j]? = A[j]? := by
    intro l
    induction l with
    | nil => intro o A j _; rfl
    | cons a l ih =>
      intro o A j hj
      simp only [List.zipIdx_cons, List.foldl_cons]
      rw [ih (o + 1) _ j (by omega), Array.getElem?_setIfInBounds_ne (by omega)]
  intro l
  induction l with
  | nil => intro o A; exact ⟨rfl, fun i v _ h => by simp at h⟩
  | cons a l ih =>
    intro o A
    simp only [List.zipIdx_cons, List.foldl_cons]
    obtain ⟨h1, h2⟩ := ih (o + 1) (A.setIfInBounds o a)
    refine ⟨by rw [h1]; simp, fun i v hA hv => ?_⟩
    cases i with
    | zero =>
      simp at hv
      subst hv
      have h3 := out l (o + 1) (A.setIfInBounds o a) o (by omega)
      simp only [List.length_cons] at hA
      rw [Array.getElem?_setIfInBounds_self, if_pos (by omega)] at h3
      exact h3
    | succ i =>
      simp only [List.length_cons] at hA
      have := h2 i v (by simp; omega) (by simpa using hv)
      rw [show o + (i + 1) = o + 1 + i by omega]
      exact this
theorem over_29 (cs : Array Value) (hcs : cs.size = 27) : ∃ D : Array Value, Array.foldl (fun cs x => cs.setIfInBounds x.2 x.1) #[Value.int IntKind.i64 0, Value.int IntKind.i64 0, Value.int IntKind.i64 0, Value.int IntKind.i64 0, Value.int IntKind.i64 0, Value.int IntKind.i64 0, Value.int IntKind.i64 0, Value.int IntKind.i64 0, Value.int IntKind.i64 0, Value.int IntKind.i64 0, Value.int IntKind.i64 0, Value.int IntKind.i64 0, Value.int IntKind.i64 0, Value.int IntKind.i64 0, Value.int IntKind.i64 0, Value.int IntKind.i64 0, Value.int IntKind.i64 0, Value.int IntKind.i64 0, Value.int IntKind.i64 0, Value.int IntKind.i64 0, Value.int IntKind.i64 0, Value.int IntKind.i64 0, Value.int IntKind.i64 0, Value.int IntKind.i64 0, Value.int IntKind.i64 0, Value.int IntKind.i64 0, Value.int IntKind.i64 0, Value.int IntKind.i64 0, Value.int IntKind.i64 0] cs.zipIdx 0 27 = D ∧ D.size = 29 ∧ ∀ (i : Nat) (v : Value), cs[i]? = some v → D[i]? = some v := by
  refine ⟨_, rfl, ?_⟩
  have hs : cs.zipIdx.size = 27 := by simp [hcs]
  have e : ∀ A : Array Value, Array.foldl (fun cs x => cs.setIfInBounds x.2 x.1) A cs.zipIdx 0 27 = (cs.toList.zipIdx 0).foldl (fun cs x => cs.setIfInBounds x.2 x.1) A := by
    intro A
    rw [← Array.toList_zipIdx, Array.foldl_toList, hs]
  rw [e]
  obtain ⟨h1, h2⟩ := fold_set cs.toList 0 #[Value.int IntKind.i64 0, Value.int IntKind.i64 0, Value.int IntKind.i64 0, Value.int IntKind.i64 0, Value.int IntKind.i64 0, Value.int IntKind.i64 0, Value.int IntKind.i64 0, Value.int IntKind.i64 0, Value.int IntKind.i64 0, Value.int IntKind.i64 0, Value.int IntKind.i64 0, Value.int IntKind.i64 0, Value.int IntKind.i64 0, Value.int IntKind.i64 0, Value.int IntKind.i64 0, Value.int IntKind.i64 0, Value.int IntKind.i64 0, Value.int IntKind.i64 0, Value.int IntKind.i64 0, Value.int IntKind.i64 0, Value.int IntKind.i64 0, Value.int IntKind.i64 0, Value.int IntKind.i64 0, Value.int IntKind.i64 0, Value.int IntKind.i64 0, Value.int IntKind.i64 0, Value.int IntKind.i64 0, Value.int IntKind.i64 0, Value.int IntKind.i64 0]
  refine ⟨by rw [h1]; rfl, fun i v hv => ?_⟩
  have := h2 i v (by rw [Array.length_toList, hcs]; exact Nat.le_of_ble_eq_true rfl) (by simpa using hv)
  simpa using this
set_option maxRecDepth 100000 in
set_option maxHeartbeats 1000000 in
theorem postAny (P : Nat → Bool) (R : Nat → Nat → Bool) (D : Array Value) (m : Nat) (w : World) (hD : D.size = 29) (hDi : Hid (∀ i, i < 27 → D[i]? = some (.int .i64 (msk (R i) 27 : Int))))
    (HI : Hid (∀ i : Nat, i < 27 → ∀ w, Calls Try.prog 57 #[.int .i64 (m : Int), .int .i64 (i : Int)] w fun e w' => e = .returned (.bool (P i)) ∧ w = w')) :
    Calls Try.prog 40 #[.agg D, .int .i64 (m : Int)] w fun e w' => e = .returned (.int .i64 (msk (imgB P R 27) 27 : Int)) ∧ Below w.heap.size w w' := by
  have hce : ∀ i, i < 27 → (w.alloc (.cells D 48)).cell? ⟨w.heap.size, i, none⟩ = some (.int .i64 (msk (R i) 27 : Int)) := fun i hi => (World.cell?_alloc_at _ _ _ i rfl).trans (hDi.out i hi)
  have HCE := Lib.hid hce
  have HB := Lib.hid ((Below.refl w.heap.size w).alloc (Nat.le_refl _) (.cells D 48))
  clear hce
  go_enter Try.func40, Try.ntmps40
  go_wp2_with fail
  refine wp_world (fun W => Hid (∀ i, i < 27 → W.cell? ⟨w.heap.size, i, none⟩ = some (.int .i64 (msk (R i) 27 : Int))) ∧ Hid (Below w.heap.size w W)) ⟨HCE, HB⟩ ?_
  rintro W0 ⟨r0, r1⟩
  clear HCE HB
  go_loop [5, 6] (fun out i => ∃ k : Nat, k ≤ 27 ∧ i = .int .i64 k ∧ out = .int .i64 (msk (imgB P R k) 27 : Int)) (fun _ i => 27 - (intOf i).toNat)
  case atStart => exact ⟨0, Nat.zero_le _, rfl, by rw [show imgB P R 0 = fun _ => false from rfl, msk_none]; rfl⟩
  case round =>
    obtain ⟨k, hk, rfl, rfl⟩ := hrel
    by_cases hlt : k < 27
    · have HC := Lib.hid (HI.out k hlt)
      cases hP : P k with
      | true =>
        have hcell := r0.out k hlt
        have hnew := or_i64 (msk27_lt (imgB P R k) (n := 27) (Nat.le_refl _)) (msk27_lt (R k) (n := 27) (Nat.le_refl _))
        rw [img_more P R k hP] at hnew
        rw [hP] at HC
        obtain ⟨m0, hm0⟩ : ∃ m, msk (imgB P R k) 27 = m := ⟨_, rfl⟩
        obtain ⟨m1, hm1⟩ : ∃ m, msk (imgB P R (k + 1)) 27 = m := ⟨_, rfl⟩
        obtain ⟨m2, hm2⟩ : ∃ m, msk (R k) 27 = m := ⟨_, rfl⟩
        have HM1 := Lib.hid hm1
        rw [hm0, hm1, hm2] at hnew
        rw [hm2] at hcell
        rw [hm0]
        clear hP hm0 hm1 hm2
        go_wp2_with fail
        refine (HC.out _).mono ?_
        rintro e w1 ⟨rfl, rfl⟩
        go_wp2_with fail
        go_round
        case rel => exact ⟨k + 1, by omega, by go_num, by rw [HM1.out]⟩
        case measure => simp [intOf]; omega
      | false =>
        have HS := Lib.hid (img_same P R k hP)
        rw [hP] at HC
        clear hP
        go_wp2_with fail
        refine (HC.out _).mono ?_
        rintro e w1 ⟨rfl, rfl⟩
        go_wp2_with fail
        go_round
        case rel => exact ⟨k + 1, by omega, by go_num, by rw [HS.out]⟩
        case measure => simp [intOf]; omega
    · obtain rfl : k = 27 := by omega
      go_wp2_with fail
      go_ret
      exact ⟨rfl, r1.out⟩
def imgV (r p : ByteArray) : Option ByteArray := if bitsB r 729 && bitsB p 27 then some (mk 27 fun u => bt (imgB (one p) (relT r) 27 u)) else none
theorem implHas (p : ByteArray) (i : Nat) (w : World) (hp : p.size = 27) (hi : i < 27) : Calls Try.prog 42 #[.string p, .int .i64 (i : Int)] w fun e w' => e = .returned (.bool (one p i)) ∧ w = w' := by
  have hk : i < p.size := by omega
  have HR := Lib.hid (show one p i = (((p[i].toNat : Int)) == 49) by rw [one_at hk, Bool.eq_iff_iff]; simp only [beq_iff_eq]; omega)
  clear hp
  go_enter Try.func42, Try.ntmps42
  go_wp2
  go_ret
  exact ⟨by rw [HR.out]; rfl, rfl⟩
set_option maxHeartbeats 1000000 in
theorem tells_img (r p : ByteArray) (w : World) (b1 b2 : Nat) (hc1 : w.cell? ⟨b1, 0, none⟩ = some (.string p)) (hc2 : w.cell? ⟨b2, 0, none⟩ = some (.string r)) (hs1 : r.size = 729) (hs2 : p.size = 27) :
    Tells 41 #[.pointer (some ⟨b1, 0, none⟩), .pointer (some ⟨b2, 0, none⟩)] 27 (fun u => imgB (one p) (relT r) 27 u) w := by
  intro j hj W hb
  have c1 := (hb.cell (p := ⟨b1, 0, none⟩) (block_lt_of_cell hc1)).trans hc1
  have c2 := (hb.cell (p := ⟨b2, 0, none⟩) (block_lt_of_cell hc2)).trans hc2
  have HP := Lib.hid (fun u (hu : u < 27) w => implHas p u w hs2 hu)
  have HQ := Lib.hid (fun u (hu : u < 27) w => implPair r u j w hs1 hu hj)
  show Calls Try.prog 41 #[.int .i64 (j : Int), .pointer (some ⟨b1, 0, none⟩), .pointer (some ⟨b2, 0, none⟩)] W _
  clear hc1 hc2 hb
  go_enter Try.func41, Try.ntmps41
  go_wp2_with fail
  go_loop [5, 6] (fun u k => ∃ n : Nat, n ≤ 27 ∧ k = .int .i64 n ∧ imgB (one p) (relT r) n j = false) (fun _ k => 27 - (intOf k).toNat)
  case atStart => exact ⟨0, Nat.zero_le _, rfl, rfl⟩
  case round =>
    obtain ⟨n, hn, rfl, hj0⟩ := hrel
    by_cases hlt : n < 27
    · have HC1 := Lib.hid (HP.out n hlt)
      have HC2 := Lib.hid (HQ.out n hlt)
      have hst := img_step (one p) (relT r) n j
      cases e1 : one p n with
      | true =>
        cases e2 : one r (27 * n + j) with
        | true =>
          have HT := Lib.hid (img_true (P := one p) (R := relT r) (u := j) hlt e1 e2)
          rw [e1] at HC1
          rw [e2] at HC2
          clear hst hj0 e1 e2
          go_wp2_with fail
          refine (HC1.out _).mono ?_
          rintro e w1 ⟨rfl, rfl⟩
          go_wp2_with fail
          refine (HC2.out _).mono ?_
          rintro e w1 ⟨rfl, rfl⟩
          go_wp2_with fail
          go_ret
          exact ⟨by rw [HT.out]; rfl, Below.refl _ _⟩
        | false =>
          have HT := Lib.hid (show imgB (one p) (relT r) (n + 1) j = false by rw [hst, hj0, show relT r n j = false from e2]; simp)
          rw [e1] at HC1
          rw [e2] at HC2
          clear hst hj0 e1 e2
          go_wp2_with fail
          refine (HC1.out _).mono ?_
          rintro e w1 ⟨rfl, rfl⟩
          go_wp2_with fail
          refine (HC2.out _).mono ?_
          rintro e w1 ⟨rfl, rfl⟩
          go_wp2_with fail
          go_round
          case rel => exact ⟨n + 1, by omega, by go_num, HT.out⟩
          case measure => simp [intOf]; omega
      | false =>
        have HT := Lib.hid (show imgB (one p) (relT r) (n + 1) j = false by rw [hst, hj0, e1]; simp)
        rw [e1] at HC1
        clear hst hj0 e1
        go_wp2_with fail
        refine (HC1.out _).mono ?_
        rintro e w1 ⟨rfl, rfl⟩
        go_wp2_with fail
        go_round
        case rel => exact ⟨n + 1, by omega, by go_num, HT.out⟩
        case measure => simp [intOf]; omega
    · obtain rfl : n = 27 := by omega
      have HT := Lib.hid hj0
      clear hj0
      go_wp2_with fail
      go_ret
      exact ⟨by rw [HT.out]; rfl, Below.refl _ _⟩
set_option maxRecDepth 100000 in
set_option maxHeartbeats 1000000 in
theorem specImageOf (r p : ByteArray) (w : World) (hr : r.size ≤ 1048576) (hp : p.size ≤ 1048576) : Calls Try.prog 12 #[.string r, .string p] w fun e w' => e = .returned (strV (imgV r p)) ∧ Below w.heap.size w w' := by
  have hr' : r.size ≤ maxLen := by unfold maxLen; omega
  have hp' : p.size ≤ maxLen := by unfold maxLen; omega
  have HV := Lib.hid (fun w => specRelValid r w hr')
  have HW := Lib.hid (fun w => specPredValid p w hp')
  cases h1 : bitsB r 729 with
  | false =>
    have H := Lib.hid (show imgV r p = none by simp [imgV, h1])
    rw [h1] at HV
    clear h1
    go_enter Try.func12, Try.ntmps12
    go_wp2_with fail
    refine (HV.out _).mono ?_
    rintro e w1 ⟨rfl, rfl⟩
    go_wp2_with fail
    exact bodyPost_ret (v := .tuple #[.string ⟨#[]⟩, .bool false]) (by simp [results, Try.results12, go_sem]) rfl ⟨by rw [H.out]; rfl, Below.refl _ _⟩
  | true =>
    cases h2 : bitsB p 27 with
    | false =>
      have H := Lib.hid (show imgV r p = none by simp [imgV, h2])
      rw [h1] at HV
      rw [h2] at HW
      clear h1 h2
      go_enter Try.func12, Try.ntmps12
      go_wp2_with fail
      refine (HV.out _).mono ?_
      rintro e w1 ⟨rfl, rfl⟩
      go_wp2_with fail
      refine (HW.out _).mono ?_
      rintro e w1 ⟨rfl, rfl⟩
      go_wp2_with fail
      exact bodyPost_ret (v := .tuple #[.string ⟨#[]⟩, .bool false]) (by simp [results, Try.results12, go_sem]) rfl ⟨by rw [H.out]; rfl, Below.refl _ _⟩
    | true =>
      have H := Lib.hid (show imgV r p = some _ by simp only [imgV, h1, h2, Bool.and_self]; rfl)
      rw [h1] at HV
      rw [h2] at HW
      have hsr : r.size = 729 := by have := bits_size h1; omega
      have hsp : p.size = 27 := by have := bits_size h2; omega
      clear h1 h2
      have HR := Lib.hid (fun w => specRead r w hsr)
      have HM := Lib.hid (fun w => specMask p w (by omega))
      rw [hsp] at HM
      have hcl : (cellsOf fun i => msk (relT r i) 27).toArray.size = 27 := by simp [cells_len]
      obtain ⟨D, hD0, hD1, hD2⟩ := over_29 (cellsOf fun i => msk (relT r i) 27).toArray hcl
      have HPO := Lib.hid (fun w => postAny (one p) (relT r) D (msk (one p) 27) w hD1 (Lib.hid fun i hi => hD2 i _ (by simpa using cells_at (fun i => msk (relT r i) 27) hi)) (Lib.hid fun i hi w => by have := specIn (msk (one p) 27) i w (msk27_lt _ (Nat.le_refl _)) hi; rw [in_msk hi] at this; exact this))
      have HX := Lib.hid (fun w => specText (imgB (one p) (relT r) 27) w)
      rw [arrR, arr] at HR
      have HD0 := Lib.hid hD0
      obtain ⟨cs, hcs⟩ : ∃ cs, (cellsOf fun i => msk (relT r i) 27).toArray = cs := ⟨_, rfl⟩
      obtain ⟨m, hm⟩ : ∃ m, msk (one p) 27 = m := ⟨_, rfl⟩
      obtain ⟨n, hn⟩ : ∃ n, msk (imgB (one p) (relT r) 27) 27 = n := ⟨_, rfl⟩
      obtain ⟨s, hs⟩ : ∃ s, (mk 27 fun u => bt (imgB (one p) (relT r) 27 u)) = s := ⟨_, rfl⟩
      rw [hcs] at HR HD0 hcl
      rw [hm] at HM HPO
      rw [hn] at HPO HX
      rw [hs] at HX H
      clear hcs hm hn hs hD0 hD1 hD2
      go_enter Try.func12, Try.ntmps12
      go_wp2_with fail
      refine (HV.out _).mono ?_
      rintro e w1 ⟨rfl, rfl⟩
      go_wp2_with fail
      refine (HW.out _).mono ?_
      rintro e w1 ⟨rfl, rfl⟩
      go_wp2_with fail
      refine (HR.out _).mono ?_
      rintro e w2 ⟨rfl, hb2⟩
      go_wp2_with fail
      refine (HM.out _).mono ?_
      rintro e w3 ⟨rfl, rfl⟩
      go_wp2_with fail
      rw [HD0.out]
      refine (HPO.out _).mono ?_
      rintro e w4 ⟨rfl, hb4⟩
      go_wp2_with fail
      refine (HX.out _).mono ?_
      rintro e w5 ⟨rfl, hb5⟩
      have hb6 := hb2.trans ((hb4.trans (hb5.mono hb4.size)).mono hb2.size)
      go_wp2_with fail
      exact bodyPost_ret (v := .tuple #[.string s, .bool true]) (by simp [results, Try.results12, go_sem]) rfl ⟨by rw [H.out]; rfl, hb6⟩
set_option maxRecDepth 100000 in
set_option maxHeartbeats 1000000 in
theorem implImageOf (r p : ByteArray) (w : World) (hr : r.size ≤ 1048576) (hp : p.size ≤ 1048576) : Calls Try.prog 13 #[.string r, .string p] w fun e w' => e = .returned (strV (imgV r p)) ∧ Below w.heap.size w w' := by
  have hr' : r.size ≤ maxLen := by unfold maxLen; omega
  have hp' : p.size ≤ maxLen := by unfold maxLen; omega
  have HV := Lib.hid (fun w => implRelValid r w hr')
  have HW := Lib.hid (fun w => implPredValid p w hp')
  have hb0 : Below w.heap.size w ((w.alloc (.cells #[.string r] 9)).alloc (.cells #[.string p] 9)) := ((Below.refl _ w).alloc (Nat.le_refl _) _).alloc (by simp) _
  have HB0 := Lib.hid hb0
  clear hb0
  cases h1 : bitsB r 729 with
  | false =>
    have H := Lib.hid (show imgV r p = none by simp [imgV, h1])
    rw [h1] at HV
    clear h1
    go_enter Try.func13, Try.ntmps13
    go_wp2_with fail
    refine (HV.out _).mono ?_
    rintro e w1 ⟨rfl, rfl⟩
    go_wp2_with fail
    exact bodyPost_ret (v := .tuple #[.string ⟨#[]⟩, .bool false]) (by simp [results, Try.results13, go_sem]) rfl ⟨by rw [H.out]; rfl, HB0.out⟩
  | true =>
    cases h2 : bitsB p 27 with
    | false =>
      have H := Lib.hid (show imgV r p = none by simp [imgV, h2])
      rw [h1] at HV
      rw [h2] at HW
      clear h1 h2
      go_enter Try.func13, Try.ntmps13
      go_wp2_with fail
      refine (HV.out _).mono ?_
      rintro e w1 ⟨rfl, rfl⟩
      go_wp2_with fail
      refine (HW.out _).mono ?_
      rintro e w1 ⟨rfl, rfl⟩
      go_wp2_with fail
      exact bodyPost_ret (v := .tuple #[.string ⟨#[]⟩, .bool false]) (by simp [results, Try.results13, go_sem]) rfl ⟨by rw [H.out]; rfl, HB0.out⟩
    | true =>
      have H := Lib.hid (show imgV r p = some _ by simp only [imgV, h1, h2, Bool.and_self]; rfl)
      rw [h1] at HV
      rw [h2] at HW
      have hsr : r.size = 729 := by have := bits_size h1; omega
      have hsp : p.size = 27 := by have := bits_size h2; omega
      clear h1 h2
      have HT := Lib.hid (tells_img r p ((w.alloc (.cells #[.string r] 9)).alloc (.cells #[.string p] 9)) (w.heap.size + 1) w.heap.size (by simp [World.cell?_alloc_at]) (by simp [World.cell?_alloc_at, World.cell?_alloc_past]) hsr hsp)
      have HM := Lib.hid (makeSet 41 #[.pointer (some ⟨w.heap.size + 1, 0, none⟩), .pointer (some ⟨w.heap.size, 0, none⟩)] _ _ (fun _ _ => by simp [go_sem]) HT.out)
      obtain ⟨s, hs⟩ : ∃ s, (mk 27 fun u => bt (imgB (one p) (relT r) 27 u)) = s := ⟨_, rfl⟩
      rw [hs] at HM H
      clear hs HT
      go_enter Try.func13, Try.ntmps13
      go_wp2_with fail
      refine (HV.out _).mono ?_
      rintro e w1 ⟨rfl, rfl⟩
      go_wp2_with fail
      refine (HW.out _).mono ?_
      rintro e w1 ⟨rfl, rfl⟩
      go_wp2_with fail
      refine (HM.out).mono ?_
      rintro e w2 ⟨rfl, hb2⟩
      have HB := Lib.hid (HB0.out.trans (hb2.mono (by simp; omega)))
      clear hb2
      go_wp2_with fail
      exact bodyPost_ret (v := .tuple #[.string s, .bool true]) (by simp [results, Try.results13, go_sem]) rfl ⟨by rw [H.out]; rfl, HB.out⟩
set_option maxRecDepth 100000 in
set_option maxHeartbeats 2000000 in
theorem lawImageOf (r q : ByteArray) (w : World) (hr : r.size ≤ maxLen) (hq : q.size ≤ maxLen) : Calls Try.prog 4 #[.string r, .string q] w fun e w' => e = .returned (.bool true) ∧ Below w.heap.size w w' := by
  by_cases hbr : r.size ≤ 1048576
  · have h1r : (r.size : Int) ≤ 1048576 := by omega
    by_cases hbq : q.size ≤ 1048576
    · have h1q : (q.size : Int) ≤ 1048576 := by omega
      have HA := Lib.hid (fun w => specImageOf r q w hbr hbq)
      have HB := Lib.hid (fun w => implImageOf r q w hbr hbq)
      cases h : imgV r q with
      | none =>
        rw [h] at HA HB
        simp only [strV] at HA HB
        clear h
        go_enter Try.func4, Try.ntmps4
        go_wp2_with (first
          | (go_at_call 12; refine (HA.out _).mono ?_; rintro e w1 ⟨rfl, hw1⟩)
          | (go_at_call 13; refine (HB.out _).mono ?_; rintro e w2 ⟨rfl, hw2⟩))
        go_ret
        exact ⟨rfl, hw1.trans (hw2.mono hw1.size)⟩
      | some v =>
        rw [h] at HA HB
        simp only [strV] at HA HB
        clear h
        go_enter Try.func4, Try.ntmps4
        go_wp2_with (first
          | (go_at_call 12; refine (HA.out _).mono ?_; rintro e w1 ⟨rfl, hw1⟩)
          | (go_at_call 13; refine (HB.out _).mono ?_; rintro e w2 ⟨rfl, hw2⟩))
        go_ret
        exact ⟨rfl, hw1.trans (hw2.mono hw1.size)⟩
    · have h1q : (1048576 : Int) < (q.size : Int) := by omega
      go_enter Try.func4, Try.ntmps4
      go_wp2_with fail
      go_ret
      exact ⟨rfl, Below.refl _ _⟩
  · have h1r : (1048576 : Int) < (r.size : Int) := by omega
    go_enter Try.func4, Try.ntmps4
    go_wp2_with fail
    go_ret
    exact ⟨rfl, Below.refl _ _⟩
end Go.Proofs.Ytnamdobckkhceaa.Im
