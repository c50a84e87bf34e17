/- Contracts and law: ShadowOf. -/
import Derived.Test.YtnamdobckkhceaaTurnl
import Derived.Deep.QuietTactic
import Derived.BigQuiet
namespace Go.Proofs.Ytnamdobckkhceaa.Sd
open Go.RowKit Go.Deep Go.Proofs.Ytnamdobckkhceaa.Bi Go.Proofs.Ytnamdobckkhceaa.Ro Go.Proofs.Ytnamdobckkhceaa.Se Go.Proofs.Ytnamdobckkhceaa.Mk Go.Proofs.Ytnamdobckkhceaa.Rl Go.Proofs.Ytnamdobckkhceaa.Nu Go.Proofs.Ytnamdobckkhceaa.Tu Go.Proofs.Ytnamdobckkhceaa.Tl
set_option linter.unusedVariables false

/-- Are all states to which i is related in a set? -/
def shB (R : Nat → Nat → Bool) (P : Nat → Bool) (i : Nat) : Bool := (List.range 27).all fun u => !(R i u && !P u)
theorem andnot_i64 (f g : Nat → Bool) : bits .andNot .i64 (msk f 27 : Int) (msk g 27 : Int) = ((msk (fun u => f u && !g u) 27 : Nat) : Int) := by
  have h1 := msk27_lt f (n := 27) (Nat.le_refl _)
  have h2 := msk27_lt g (n := 27) (Nat.le_refl _)
  have e : ((BitVec.ofNat 64 (msk f 27)) &&& ~~~(BitVec.ofNat 64 (msk g 27))).toNat = msk (fun u => f u && !g u) 27 := by
    refine Nat.eq_of_testBit_eq fun i => ?_
    rw [BitVec.testBit_toNat, BitVec.getLsbD_and, BitVec.getLsbD_not, BitVec.getLsbD_ofNat, BitVec.getLsbD_ofNat, msk_bit, msk_bit, msk_bit]
    by_cases h : i < 27
    · have h64 : i < 64 := by omega
      simp [h, h64]
    · simp [h]
  simp only [bits, BitVec.ofInt_natCast]
  change IntKind.i64.wrap (((BitVec.ofNat 64 (msk f 27)) &&& ~~~(BitVec.ofNat 64 (msk g 27))).toNat : Int) = _
  rw [e, IntKind.wrap_i64]
  have h3 := msk27_lt (fun u => f u && !g u) (n := 27) (Nat.le_refl _)
  omega
theorem shadow_zero (R : Nat → Nat → Bool) (P : Nat → Bool) (i : Nat) : (bits .andNot .i64 (msk (R i) 27 : Int) (msk P 27 : Int) == 0) = shB R P i := by
  rw [andnot_i64, Bool.eq_iff_iff, beq_iff_eq]
  unfold shB
  rw [List.all_eq_true]
  constructor
  · intro h u hu
    have h0 : msk (fun u => R i u && !P u) 27 = 0 := by omega
    have := msk_bit (fun u => R i u && !P u) 27 u
    rw [h0, Nat.zero_testBit] at this
    have hu' : u < 27 := by simpa using hu
    simp only [hu', decide_true, Bool.true_and] at this
    rw [← this]; rfl
  · intro h
    have : msk (fun u => R i u && !P u) 27 = msk (fun _ => false) 27 := msk_congr fun u hu => by
      have := h u (by simpa using hu)
      cases h1 : R i u <;> cases h2 : P u <;> simp_all
    rw [this, msk_none]; rfl
theorem within_sh {r p : ByteArray} {i : Nat} (hr : r.size = 729) (hi : i < 27) : withinB (r.extract (27 * i) (27 * i + 27)) p = shB (relT r) (one p) i := by
  have q1 : 27 * i + 27 ≤ r.size := by omega
  unfold withinB shB
  rw [cut_size q1, Bool.eq_iff_iff, List.all_eq_true, List.all_eq_true]
  constructor
  · intro h u hu
    have := h u hu
    rw [one_cut q1 u (by simpa using hu)] at this
    exact this
  · intro h u hu
    have := h u hu
    rw [one_cut q1 u (by simpa using hu)]
    exact this
def shadV (r p : ByteArray) : Option ByteArray := if bitsB r 729 && bitsB p 27 then some (mk 27 fun i => bt (shB (relT r) (one p) i)) else none
set_option maxHeartbeats 1000000 in
theorem tells_shadow (r p : ByteArray) (w : World) (b1 b2 : Nat) (hc1 : w.cell? ⟨b1, 0, none⟩ = some (.string r)) (hc2 : w.cell? ⟨b2, 0, none⟩ = some (.string p)) (hs1 : r.size = 729) (hs2 : p.size = 27) (hbit : ∀ k (hk : k < p.size), p[k].toNat = 48 ∨ p[k].toNat = 49) :
    Tells 38 #[.pointer (some ⟨b1, 0, none⟩), .pointer (some ⟨b2, 0, none⟩)] 27 (fun i => shB (relT r) (one p) i) w := by
  intro i hi W hb
  have c1 := (hb.cell (p := ⟨b1, 0, none⟩) (block_lt_of_cell hc1)).trans hc1
  have c2 := (hb.cell (p := ⟨b2, 0, none⟩) (block_lt_of_cell hc2)).trans hc2
  have q1 : 27 * i + 27 ≤ r.size := by omega
  have HC := Lib.hid (fun q => (implWithin (r.extract (27 * i) (27 * i + 27)) p (W.drewN q) (by rw [cut_size q1]; omega) (by rw [cut_size q1]; exact hs2) hbit).mono (fun e w' h => (⟨h.1, h.2.symm⟩ : e = .returned (.bool (withinB (r.extract (27 * i) (27 * i + 27)) p)) ∧ w' = W.drewN q)))
  rw [within_sh hs1 hi] at HC
  have i1 : (27 : Int) * ((i : Int) + 1) ≤ (r.size : Int) := by omega
  have i2 : ((27 : Int) * (i : Int)).toNat = 27 * i := by omega
  have i3 : ((27 : Int) * ((i : Int) + 1)).toNat = 27 * i + 27 := by omega
  have i4 : (0 : Int) ≤ 27 * (i : Int) := by omega
  have i5 : (27 : Int) * (i : Int) ≤ 27 * ((i : Int) + 1) := by omega
  show Calls Try.prog 38 #[.int .i64 (i : Int), .pointer (some ⟨b1, 0, none⟩), .pointer (some ⟨b2, 0, none⟩)] W _
  clear hc1 hc2 hb hbit
  go_enter Try.func38, Try.ntmps38
  go_wp2_with fail
  go_quiet (first | (go_at_call 39; exact Calls.quiet_of_same (HC.out _)))
  go_wp2_with fail
  go_ret
  exact ⟨rfl, ⟨rfl, rfl, rfl, Nat.le_refl _, fun _ _ => rfl⟩⟩
set_option maxRecDepth 100000 in
set_option maxHeartbeats 1000000 in
theorem implShadowOf (r p : ByteArray) (w : World) (hr : r.size ≤ 1048576) (hp : p.size ≤ 1048576) : Calls Try.prog 11 #[.string r, .string p] w fun e w' => e = .returned (strV (shadV r p)) ∧ Below w.heap.size w w' := by
  have hr' : r.size ≤ maxLen := by unfold maxLen; omega
  have hp' : p.size ≤ maxLen := by unfold maxLen; omega
  have HV := Lib.hid (fun w => implRelValid r w hr')
  have HW := Lib.hid (fun w => implPredValid p w hp')
  have hb0 : Below w.heap.size w ((w.alloc (.cells #[.string r] 9)).alloc (.cells #[.string p] 9)) := ((Below.refl _ w).alloc (Nat.le_refl _) _).alloc (by simp) _
  have HB0 := Lib.hid hb0
  clear hb0
  cases h1 : bitsB r 729 with
  | false =>
    have H := Lib.hid (show shadV r p = none by simp [shadV, h1])
    rw [h1] at HV
    clear h1
    go_enter Try.func11, Try.ntmps11
    go_wp2_with fail
    refine (HV.out _).mono ?_
    rintro e w1 ⟨rfl, rfl⟩
    go_wp2_with fail
    exact bodyPost_ret (v := .tuple #[.string ⟨#[]⟩, .bool false]) (by simp [results, Try.results11, go_sem]) rfl ⟨by rw [H.out]; rfl, HB0.out⟩
  | true =>
    cases h2 : bitsB p 27 with
    | false =>
      have H := Lib.hid (show shadV r p = none by simp [shadV, h2])
      rw [h1] at HV
      rw [h2] at HW
      clear h1 h2
      go_enter Try.func11, Try.ntmps11
      go_wp2_with fail
      refine (HV.out _).mono ?_
      rintro e w1 ⟨rfl, rfl⟩
      go_wp2_with fail
      refine (HW.out _).mono ?_
      rintro e w1 ⟨rfl, rfl⟩
      go_wp2_with fail
      exact bodyPost_ret (v := .tuple #[.string ⟨#[]⟩, .bool false]) (by simp [results, Try.results11, go_sem]) rfl ⟨by rw [H.out]; rfl, HB0.out⟩
    | true =>
      have H := Lib.hid (show shadV r p = some _ by simp only [shadV, h1, h2, Bool.and_self]; rfl)
      rw [h1] at HV
      rw [h2] at HW
      have hsr : r.size = 729 := by have := bits_size h1; omega
      have hsp : p.size = 27 := by have := bits_size h2; omega
      have HBIT := Lib.hid (fun k (hk : k < p.size) => bits_bit h2 hk)
      clear h1 h2
      have hbit : ∀ k (hk : k < p.size), p[k].toNat = 48 ∨ p[k].toNat = 49 := HBIT.out
      have HT := Lib.hid (tells_shadow r p ((w.alloc (.cells #[.string r] 9)).alloc (.cells #[.string p] 9)) w.heap.size (w.heap.size + 1) (by simp [World.cell?_alloc_at, World.cell?_alloc_past]) (by simp [World.cell?_alloc_at]) hsr hsp hbit)
      have HM := Lib.hid (makeSet 38 #[.pointer (some ⟨w.heap.size, 0, none⟩), .pointer (some ⟨w.heap.size + 1, 0, none⟩)] _ _ (fun _ _ => by simp [go_sem]) HT.out)
      obtain ⟨s, hs⟩ : ∃ s, (mk 27 fun i => bt (shB (relT r) (one p) i)) = s := ⟨_, rfl⟩
      rw [hs] at HM H
      clear hs HT hbit HBIT
      go_enter Try.func11, Try.ntmps11
      go_wp2_with fail
      refine (HV.out _).mono ?_
      rintro e w1 ⟨rfl, rfl⟩
      go_wp2_with fail
      refine (HW.out _).mono ?_
      rintro e w1 ⟨rfl, rfl⟩
      go_wp2_with fail
      refine (HM.out).mono ?_
      rintro e w2 ⟨rfl, hb2⟩
      have HB := Lib.hid (HB0.out.trans (hb2.mono (by simp; omega)))
      clear hb2
      go_wp2_with fail
      exact bodyPost_ret (v := .tuple #[.string s, .bool true]) (by simp [results, Try.results11, go_sem]) rfl ⟨by rw [H.out]; rfl, HB.out⟩
set_option maxRecDepth 100000 in
set_option maxHeartbeats 1000000 in
theorem specShadowOf (r p : ByteArray) (w : World) (hr : r.size ≤ 1048576) (hp : p.size ≤ 1048576) : Calls Try.prog 10 #[.string r, .string p] w fun e w' => e = .returned (strV (shadV r p)) ∧ Below w.heap.size w w' := by
  have hr' : r.size ≤ maxLen := by unfold maxLen; omega
  have hp' : p.size ≤ maxLen := by unfold maxLen; omega
  have HV := Lib.hid (fun w => specRelValid r w hr')
  have HW := Lib.hid (fun w => specPredValid p w hp')
  cases h1 : bitsB r 729 with
  | false =>
    have H := Lib.hid (show shadV r p = none by simp [shadV, h1])
    rw [h1] at HV
    clear h1
    go_enter Try.func10, Try.ntmps10
    go_wp2_with fail
    refine (HV.out _).mono ?_
    rintro e w1 ⟨rfl, rfl⟩
    go_wp2_with fail
    exact bodyPost_ret (v := .tuple #[.string ⟨#[]⟩, .bool false]) (by simp [results, Try.results10, go_sem]) rfl ⟨by rw [H.out]; rfl, Below.refl _ _⟩
  | true =>
    cases h2 : bitsB p 27 with
    | false =>
      have H := Lib.hid (show shadV r p = none by simp [shadV, h2])
      rw [h1] at HV
      rw [h2] at HW
      clear h1 h2
      go_enter Try.func10, Try.ntmps10
      go_wp2_with fail
      refine (HV.out _).mono ?_
      rintro e w1 ⟨rfl, rfl⟩
      go_wp2_with fail
      refine (HW.out _).mono ?_
      rintro e w1 ⟨rfl, rfl⟩
      go_wp2_with fail
      exact bodyPost_ret (v := .tuple #[.string ⟨#[]⟩, .bool false]) (by simp [results, Try.results10, go_sem]) rfl ⟨by rw [H.out]; rfl, Below.refl _ _⟩
    | true =>
      have H := Lib.hid (show shadV r p = some _ by simp only [shadV, h1, h2, Bool.and_self]; rfl)
      rw [h1] at HV
      rw [h2] at HW
      have hsr : r.size = 729 := by have := bits_size h1; omega
      have hsp : p.size = 27 := by have := bits_size h2; omega
      clear h1 h2
      have HR := Lib.hid (fun w => specRead r w hsr)
      have HM := Lib.hid (fun w => specMask p w (by omega))
      rw [hsp] at HM
      have HX := Lib.hid (fun w => specText (shB (relT r) (one p)) w)
      have HZ := Lib.hid (fun i => shadow_zero (relT r) (one p) i)
      have HGC := Lib.hid (fun i (hi : i < 27) => cells_at (fun i => msk (relT r i) 27) hi)
      have hlen := cells_len fun i => msk (relT r i) 27
      have hone0 := cells_one fun i => msk (relT r i) 27
      rw [arrR, arr] at HR
      obtain ⟨l, hl⟩ : ∃ l, (cellsOf fun i => msk (relT r i) 27) = l := ⟨_, rfl⟩
      obtain ⟨m, hm⟩ : ∃ m, msk (one p) 27 = m := ⟨_, rfl⟩
      obtain ⟨g, hg⟩ : ∃ g : Nat → Nat, (fun i => msk (relT r i) 27) = g := ⟨_, rfl⟩
      have hgi : ∀ i, msk (relT r i) 27 = g i := fun i => congrFun hg i
      obtain ⟨n, hn⟩ : ∃ n, msk (shB (relT r) (one p)) 27 = n := ⟨_, rfl⟩
      obtain ⟨s, hs⟩ : ∃ s, (mk 27 fun u => bt (shB (relT r) (one p) u)) = s := ⟨_, rfl⟩
      rw [hl] at HR HGC hlen hone0
      have HHN := Lib.hid hn
      rw [hn] at HX
      rw [hm] at HM HZ
      rw [hs] at HX H
      have HG := Lib.hid hgi
      have hone := Lib.hid (all_oneCell_toArray hone0)
      have hsz : l.toArray.size = 27 := by simp [hlen]
      have hin2 := Lib.hid (show (Try.prog.info? 39).map (·.size) = some l.toArray.size by rw [hsz]; exact info39)
      clear hl hm hg hn hs hgi hone0
      go_enter Try.func10, Try.ntmps10
      go_wp2_with fail
      refine (HV.out _).mono ?_
      rintro e w1 ⟨rfl, rfl⟩
      go_wp2_with fail
      refine (HW.out _).mono ?_
      rintro e w1 ⟨rfl, rfl⟩
      go_wp2_with fail
      refine (HR.out _).mono ?_
      rintro e w2 ⟨rfl, hb2⟩
      have hth := Lib.hid (show (w2.alloc (.cells zero27 39)).there w2.heap.size 0 l.toArray.size by rw [hsz]; exact row_there (row_zero27 w2 _))
      go_wp2_with (refine wpList_store_mid rfl 39 (.tmp 7) (.tmp 18) rfl w2.heap.size 0 l.toArray rfl rfl hth.out hin2.out hone.out ?_)
      have hce : ∀ i, i < 27 → ((w2.alloc (.cells zero27 39)).setCells w2.heap.size 0 l).cell? ⟨w2.heap.size, i, none⟩ = some (.int .i64 (g i : Int)) := fun i hi => by
        have h1 := World.rangeAt_setCells_same (w2.alloc (.cells zero27 39)) w2.heap.size 0 l (by have := hth.out; rw [hsz] at this; rw [hlen]; exact this) i _ (HGC.out i hi)
        rw [Nat.zero_add, HG.out i] at h1
        exact h1
      have hbe : Below w.heap.size w ((w2.alloc (.cells zero27 39)).setCells w2.heap.size 0 l) := below_cells hb2.size _ _ _ (hb2.alloc hb2.size _)
      have hlt0 : w2.heap.size < ((w2.alloc (.cells zero27 39)).setCells w2.heap.size 0 l).heap.size := by
        exact block_lt_of_cell (hce 0 (by omega))
      refine wp_world (fun W => Hid (∀ i, i < 27 → W.cell? ⟨w2.heap.size, i, none⟩ = some (.int .i64 (g i : Int))) ∧ Below w.heap.size w W ∧ w2.heap.size < W.heap.size) ⟨Lib.hid hce, hbe, hlt0⟩ ?_
      rintro W0 ⟨r0, r1, r2⟩
      clear hce hbe hlt0 hth hb2
      go_loopw [6, 8] (fun out i wr => ∃ k : Nat, k ≤ 27 ∧ i = .int .i64 k ∧ out = .int .i64 (msk (shB (relT r) (one p)) k : Int) ∧ Below W0.heap.size W0 wr) (fun _ i _ => 27 - (intOf i).toNat)
      case atStart => exact ⟨0, Nat.zero_le _, rfl, rfl, Below.refl _ _⟩
      case round =>
        obtain ⟨k, hk, rfl, rfl, hb⟩ := hrel
        by_cases hlt : k < 27
        · have hcell : wr.cell? ⟨w2.heap.size, k, none⟩ = some (.int .i64 (g k : Int)) := by rw [hb.cell r2]; exact r0.out k hlt
          have HMQ := Lib.hid (fun q => (HM.out (wr.drewN q)).mono (fun e w' h => (⟨h.1, h.2.symm⟩ : e = .returned (.int .i64 (m : Int)) ∧ w' = wr.drewN q)))
          have hz := HZ.out k
          rw [HG.out k] at hz
          cases hs : shB (relT r) (one p) k with
          | true =>
            have hnew := msk_step (f := shB (relT r) (one p)) hlt
            have HV := Lib.hid (show msk (shB (relT r) (one p)) k ||| 2 ^ k = msk (shB (relT r) (one p)) (k + 1) by rw [msk, if_pos hs])
            rw [HV.out] at hnew
            rw [hs] at hz
            obtain ⟨m0, hm0⟩ : ∃ m, msk (shB (relT r) (one p)) k = m := ⟨_, rfl⟩
            obtain ⟨m1, hm1⟩ : ∃ m, msk (shB (relT r) (one p)) (k + 1) = m := ⟨_, rfl⟩
            have HM1 := Lib.hid hm1
            rw [hm0, hm1] at hnew
            rw [hm0]
            clear hs hm0 hm1 HV
            go_wp2_with fail
            go_quiet (first | (go_at_call 33; exact Calls.quiet_of_same (HMQ.out _)))
            go_wp2_with fail
            go_roundw
            case rel => exact ⟨k + 1, by omega, by go_num, by rw [HM1.out], ⟨hb.os, hb.tape, hb.output, hb.size, hb.block⟩⟩
            case measure => simp [intOf]; omega
          | false =>
            have HS := Lib.hid (show msk (shB (relT r) (one p)) (k + 1) = msk (shB (relT r) (one p)) k by rw [msk, if_neg (by rw [hs]; simp)]; simp)
            rw [hs] at hz
            clear hs
            go_wp2_with fail
            go_quiet (first | (go_at_call 33; exact Calls.quiet_of_same (HMQ.out _)))
            go_wp2_with fail
            go_roundw
            case rel => exact ⟨k + 1, by omega, by go_num, by rw [HS.out], ⟨hb.os, hb.tape, hb.output, hb.size, hb.block⟩⟩
            case measure => simp [intOf]; omega
        · obtain rfl : k = 27 := by omega
          rw [HHN.out]
          go_wp2_with fail
          refine (HX.out _).mono ?_
          rintro e w5 ⟨rfl, hb5⟩
          have hb6 := r1.trans ((hb.trans (hb5.mono hb.size)).mono r1.size)
          go_wp2_with fail
          exact bodyPost_ret (v := .tuple #[.string s, .bool true]) (by simp [results, Try.results10, go_sem]) rfl ⟨by rw [H.out]; rfl, hb6⟩
set_option maxRecDepth 100000 in
set_option maxHeartbeats 2000000 in
theorem lawShadowOf (r q : ByteArray) (w : World) (hr : r.size ≤ maxLen) (hq : q.size ≤ maxLen) : Calls Try.prog 3 #[.string r, .string q] w fun e w' => e = .returned (.bool true) ∧ Below w.heap.size w w' := by
  by_cases hbr : r.size ≤ 1048576
  · have h1r : (r.size : Int) ≤ 1048576 := by omega
    by_cases hbq : q.size ≤ 1048576
    · have h1q : (q.size : Int) ≤ 1048576 := by omega
      have HA := Lib.hid (fun w => specShadowOf r q w hbr hbq)
      have HB := Lib.hid (fun w => implShadowOf r q w hbr hbq)
      cases h : shadV r q with
      | none =>
        rw [h] at HA HB
        simp only [strV] at HA HB
        clear h
        go_enter Try.func3, Try.ntmps3
        go_wp2_with (first
          | (go_at_call 10; refine (HA.out _).mono ?_; rintro e w1 ⟨rfl, hw1⟩)
          | (go_at_call 11; refine (HB.out _).mono ?_; rintro e w2 ⟨rfl, hw2⟩))
        go_ret
        exact ⟨rfl, hw1.trans (hw2.mono hw1.size)⟩
      | some v =>
        rw [h] at HA HB
        simp only [strV] at HA HB
        clear h
        go_enter Try.func3, Try.ntmps3
        go_wp2_with (first
          | (go_at_call 10; refine (HA.out _).mono ?_; rintro e w1 ⟨rfl, hw1⟩)
          | (go_at_call 11; refine (HB.out _).mono ?_; rintro e w2 ⟨rfl, hw2⟩))
        go_ret
        exact ⟨rfl, hw1.trans (hw2.mono hw1.size)⟩
    · have h1q : (1048576 : Int) < (q.size : Int) := by omega
      go_enter Try.func3, Try.ntmps3
      go_wp2_with fail
      go_ret
      exact ⟨rfl, Below.refl _ _⟩
  · have h1r : (1048576 : Int) < (r.size : Int) := by omega
    go_enter Try.func3, Try.ntmps3
    go_wp2_with fail
    go_ret
    exact ⟨rfl, Below.refl _ _⟩
end Go.Proofs.Ytnamdobckkhceaa.Sd
