/- Contracts and law: IsEquivalence. -/
import Derived.Test.YtnamdobckkhceaaClose
import Derived.Deep.QuietTactic
import Derived.BigQuiet
import Derived.Lib.QuietBelow
namespace Go.Proofs.Ytnamdobckkhceaa.Eq
open Go.RowKit Go.Deep Go.Sort Go.Proofs.Ytnamdobckkhceaa.Bi Go.Proofs.Ytnamdobckkhceaa.Ro Go.Proofs.Ytnamdobckkhceaa.Se Go.Proofs.Ytnamdobckkhceaa.Mk Go.Proofs.Ytnamdobckkhceaa.Rl Go.Proofs.Ytnamdobckkhceaa.Nu Go.Proofs.Ytnamdobckkhceaa.Tu Go.Proofs.Ytnamdobckkhceaa.Tl Go.Proofs.Ytnamdobckkhceaa.Cp Go.Proofs.Ytnamdobckkhceaa.Cl
set_option linter.unusedVariables false

/-! ### Plain -/
def tn (R : Nat → Nat → Bool) : Nat → Nat → Bool := fun i j => R j i
theorem it_cnt {R : Nat → Nat → Bool} (hr : Refl27 R) (h : ∀ k, k ≤ 729 → ¬ Eq27 (it R (k + 1)) (it R k)) : ∀ k, k ≤ 730 → k ≤ cntP (it R k) 729
  | 0, _ => Nat.zero_le _
  | k + 1, hk => by
    have h1 := it_cnt hr h k (by omega)
    have h2 : cntP (it R k) 729 < cntP (sq (it R k)) 729 := cnt_grow (it_refl hr k) (h k (by omega))
    show k + 1 ≤ cntP (sq (it R k)) 729
    omega
theorem clo_fix {R : Nat → Nat → Bool} (hr : Refl27 R) : Eq27 (sq (clo R)) (clo R) := by
  have : ∃ k, k ≤ 729 ∧ Eq27 (it R (k + 1)) (it R k) := Classical.byContradiction fun hn => by
    have h1 := it_cnt hr (fun k hk he => hn ⟨k, hk, he⟩) 730 (Nat.le_refl _)
    have h2 := cnt_le (it R 730) 729
    omega
  obtain ⟨k, hk, he⟩ := this
  have h1 := clo_of he hk
  exact (sq_congr h1.symm).trans ((show Eq27 (sq (it R k)) (it R k) from he).trans h1)
theorem clo_refl {R : Nat → Nat → Bool} (hr : Refl27 R) : Refl27 (clo R) := it_refl hr 729
theorem clo_self {R : Nat → Nat → Bool} (hr : Refl27 R) (hs : Eq27 (sq R) R) : Eq27 (clo (withId R)) R := by
  have h0 : Eq27 (withId R) R := fun i j hi hj => by
    unfold withId
    by_cases e : i = j
    · subst e; simp [hr i hi]
    · simp [e]
  have : ∀ k, Eq27 (it (withId R) k) R := fun k => by
    induction k with
    | zero => exact h0
    | succ k ih => exact (sq_congr ih).trans hs
  exact this 729
theorem clo_iff (R : Nat → Nat → Bool) : Eq27 (clo (withId R)) R ↔ (Refl27 R ∧ Eq27 (sq R) R) := by
  constructor
  · intro h
    refine ⟨fun i hi => by rw [← h i i hi hi]; exact clo_refl (id_refl R) i hi, ?_⟩
    exact (sq_congr h.symm).trans ((clo_fix (id_refl R)).trans h)
  · rintro ⟨hr, hs⟩
    exact clo_self hr hs
theorem self_rel {r : ByteArray} (h : bitsB r 729 = true) : r = relS (relT r) 27 := by
  have h1 := eq_mk (fun k hk => bits_bit h (k := k) hk)
  have h2 := bits_size h
  have h3 : r.size = 27 * 27 := by omega
  rw [h3] at h1
  refine h1.trans (mk_congr fun i hi => ?_)
  unfold relT
  rw [show 27 * (i / 27) + i % 27 = i by omega]
theorem rel_is {r : ByteArray} (h : bitsB r 729 = true) (S : Nat → Nat → Bool) : relS S 27 = r ↔ Eq27 S (relT r) := by
  constructor
  · intro e
    rw [self_rel h] at e
    exact relS_inj e
  · intro e
    rw [relS_congr e, ← self_rel h]
def eqvB (r : ByteArray) : Bool := bitsB r 729 && (decide (relS (tn (relT r)) 27 = r) && decide (relS (clo (withId (relT r))) 27 = r))
set_option maxRecDepth 100000 in
theorem implIsEquivalence (r : ByteArray) (w : World) (hr : r.size ≤ 1048576) : Calls Try.prog 29 #[.string r] w fun e w' => e = .returned (.bool (eqvB r)) ∧ Below w.heap.size w w' := by
  have hrs : (r.size : Int) ≤ 1048576 := by omega
  have HT := Lib.hid (fun w => implTurnRel r w hr)
  have HC := Lib.hid (fun w => implCloseRel r w hr)
  cases h : bitsB r 729 with
  | false =>
    have H := Lib.hid (show eqvB r = false by simp [eqvB, h])
    simp only [turnV, closeV, h, Bool.false_eq_true, if_false, strV] at HT HC
    clear h
    go_enter Try.func29, Try.ntmps29
    go_wp2_with (first | (go_at_call 15; refine (HT.out _).mono ?_; rintro e w1 ⟨rfl, hb1⟩) | (go_at_call 27; refine (HC.out _).mono ?_; rintro e w2 ⟨rfl, hb2⟩))
    all_goals
      go_ret
      exact ⟨by rw [H.out]; rfl, hb1.trans (hb2.mono hb1.size)⟩
  | true =>
    simp only [turnV, closeV, h, if_true, strV] at HT HC
    have H := Lib.hid (show eqvB r = (decide (relS (tn (relT r)) 27 = r) && decide (relS (clo (withId (relT r))) 27 = r)) by simp [eqvB, h])
    change Hid (∀ w, Calls Try.prog 15 #[.string r] w fun e w' => e = .returned (.tuple #[.string (relS (tn (relT r)) 27), .bool true]) ∧ Below w.heap.size w w') at HT
    obtain ⟨t, ht⟩ : ∃ t, relS (tn (relT r)) 27 = t := ⟨_, rfl⟩
    obtain ⟨c, hc⟩ : ∃ c, relS (clo (withId (relT r))) 27 = c := ⟨_, rfl⟩
    rw [ht] at HT H
    rw [hc] at HC H
    clear h ht hc
    by_cases e1 : t = r
    all_goals by_cases e2 : c = r
    · subst e1
      subst e2
      have HV := Lib.hid (show eqvB c = true by rw [H.out]; simp)
      clear H
      go_enter Try.func29, Try.ntmps29
      go_wp2_with (first | (go_at_call 15; refine (HT.out _).mono ?_; rintro e w1 ⟨rfl, hb1⟩) | (go_at_call 27; refine (HC.out _).mono ?_; rintro e w2 ⟨rfl, hb2⟩))
      all_goals
        go_ret
        exact ⟨by rw [HV.out]; rfl, hb1.trans (hb2.mono hb1.size)⟩
    · subst e1
      have HV := Lib.hid (show eqvB t = false by rw [H.out]; simp [e2])
      have n2 := ne_list e2
      clear H e2
      go_enter Try.func29, Try.ntmps29
      go_wp2_with (first | (go_at_call 15; refine (HT.out _).mono ?_; rintro e w1 ⟨rfl, hb1⟩) | (go_at_call 27; refine (HC.out _).mono ?_; rintro e w2 ⟨rfl, hb2⟩))
      all_goals
        go_ret
        exact ⟨by rw [HV.out]; rfl, hb1.trans (hb2.mono hb1.size)⟩
    · subst e2
      have HV := Lib.hid (show eqvB c = false by rw [H.out]; simp [e1])
      have n1 := ne_list e1
      clear H e1
      go_enter Try.func29, Try.ntmps29
      go_wp2_with (first | (go_at_call 15; refine (HT.out _).mono ?_; rintro e w1 ⟨rfl, hb1⟩) | (go_at_call 27; refine (HC.out _).mono ?_; rintro e w2 ⟨rfl, hb2⟩))
      all_goals
        go_ret
        exact ⟨by rw [HV.out]; rfl, hb1.trans (hb2.mono hb1.size)⟩
    · have HV := Lib.hid (show eqvB r = false by rw [H.out]; simp [e1])
      have n1 := ne_list e1
      have n2 := ne_list e2
      clear H e1 e2
      go_enter Try.func29, Try.ntmps29
      go_wp2_with (first | (go_at_call 15; refine (HT.out _).mono ?_; rintro e w1 ⟨rfl, hb1⟩) | (go_at_call 27; refine (HC.out _).mono ?_; rintro e w2 ⟨rfl, hb2⟩))
      all_goals
        go_ret
        exact ⟨by rw [HV.out]; rfl, hb1.trans (hb2.mono hb1.size)⟩
theorem wpQuiet_load_mid {P : Program} {ops : Array Oper} {C : World → Prop} {Q : Act → Prop} {a : Act} {op : Oper} {rest : List Oper} (hw : Region.wanted op (yielded ops a.tmps) = true) (ty : TypeId) (x : Operand) (ho : op.op = .load ty x)
    (b o : Nat) (hx : a.eval x = .pointer (some ⟨b, o, none⟩)) (cs : List Value) (d : TypeDesc) (hS : ∀ w, C w → w.rangeAt b o cs)
    (hu : P.underlying ty = some d) (hd : d.isRow = true) (hi : (P.info? ty).map (·.size) = some cs.length) (h : wpQuiet P ops C Q rest (a.put op.dst (.agg cs.toArray))) : wpQuiet P ops C Q (op :: rest) a := by
  unfold wpQuiet
  simp only [hw, if_true]
  refine ⟨.agg cs.toArray, fun w hw' => ?_, h⟩
  unfold Oper.quietAt execOp
  simp only [ho, hx, Instr.loadAt, Instr.sureAddr, Sem.run_bind, Sem.run_pure, Result.andThen_ok, run_loadVar_mid w b o ty cs d (hS w hw') hu hd hi]
  exact ⟨rfl, rfl⟩
theorem range_regrown {w : World} {b : Nat} {cs : List Value} (h : w.rangeAt b 0 cs) (w' : World) (hc : ∃ p : Regrown, w' = grow (redrawn w p.d) p.os) : w'.rangeAt b 0 cs := by
  obtain ⟨p, rfl⟩ := hc
  exact fun j v hv => cell_regrown (h j v hv) p.d p.os
set_option maxRecDepth 100000 in
set_option maxHeartbeats 1000000 in
theorem specIsEquivalence (r : ByteArray) (w : World) (hr : r.size ≤ 1048576) : Calls Try.prog 28 #[.string r] w fun e w' => e = .returned (.bool (eqvB r)) ∧ Below w.heap.size w w' := by
  have hr' : r.size ≤ maxLen := by unfold maxLen; omega
  have HV := Lib.hid (fun w => specRelValid r w hr')
  cases h : bitsB r 729 with
  | false =>
    have H := Lib.hid (show eqvB r = false by simp [eqvB, h])
    rw [h] at HV
    clear h
    go_enter Try.func28, Try.ntmps28
    go_wp2_with fail
    refine (HV.out _).mono ?_
    rintro e w1 ⟨rfl, rfl⟩
    go_wp2_with fail
    go_ret
    exact ⟨by rw [H.out]; rfl, Below.refl _ _⟩
  | true =>
    rw [h] at HV
    have HVD := Lib.hid h
    have HR := Lib.hid (fun w => specRead r w (by have := bits_size h; omega))
    unfold arrR arr at HR
    obtain ⟨co, hco⟩ : ∃ c, cellsOf (fun i => msk (relT r i) 27) = c := ⟨_, rfl⟩
    rw [hco] at HR
    have HCO := Lib.hid hco
    clear h hco
    go_enter Try.func28, Try.ntmps28
    go_wp2_with fail
    refine (HV.out _).mono ?_
    rintro e w1 ⟨rfl, rfl⟩
    go_wp2_with fail
    refine (HR.out _).mono ?_
    rintro e w2 ⟨rfl, hb2⟩
    have HB2 := Lib.hid hb2
    have HLEN := Lib.hid (show co.toArray.size = 27 by rw [← HCO.out]; simp [cells_len])
    have hth := Lib.hid (show (w2.alloc (.cells zero27 39)).there w2.heap.size 0 co.toArray.size by rw [HLEN.out]; exact row_there (row_zero27 w2 39))
    have hin2 := Lib.hid (show (Try.prog.info? 39).map (·.size) = some co.toArray.size by rw [HLEN.out]; exact info39)
    have hone := Lib.hid (show (co.toArray).all (·.oneCell') = true by rw [← HCO.out]; exact all_oneCell_toArray (cells_one _))
    clear hb2
    go_wp2_with (refine wpList_store_mid rfl 39 (.tmp 3) (.tmp 9) rfl w2.heap.size 0 co.toArray rfl rfl hth.out hin2.out hone.out ?_)
    refine wp_world (fun W => W.rowIs w2.heap.size 39 27 (fun i => .int .i64 (msk (relT r i) 27 : Int)) ∧ Below w.heap.size w W) ⟨?_, ?_⟩ ?_
    · have := row_full (fun i => msk (relT r i) 27) (row_zero27 w2 39)
      rw [HCO.out] at this
      exact this
    · exact below_cells HB2.out.size co 0 _ (HB2.out.alloc HB2.out.size _)
    rintro W0 ⟨r0, b0⟩
    obtain ⟨N, hN⟩ : ∃ N, w2.heap.size = N := ⟨_, rfl⟩
    have hNle : w.heap.size ≤ N := by rw [← hN]; exact HB2.out.size
    rw [hN] at r0 ⊢
    clear HB2 hth hN hin2 hone HR HV
    obtain ⟨R, hR⟩ : ∃ R, relT r = R := ⟨_, rfl⟩
    have HREL := Lib.hid hR
    rw [hR] at r0 HCO
    clear hR
    go_loopw [4] (fun i wr => ∃ k : Nat, k ≤ 27 ∧ i = .int .i64 k ∧ Hid (∀ j, j < k → R j j = true) ∧ wr.rowIs N 39 27 (fun i => .int .i64 (msk (R i) 27 : Int)) ∧ Below w.heap.size w wr) (fun i _ => 27 - (intOf i).toNat)
    case atStart => exact ⟨0, Nat.zero_le _, rfl, Lib.hid fun j hj => by omega, r0, b0⟩
    case round =>
      clear r0 b0
      obtain ⟨k, hk, rfl, HRF, hrow, hb⟩ := hrel
      by_cases hlt : k < 27
      · have hc2 := hrow.cell hlt
        have HI := Lib.hid (fun w => specIn (msk (R k) 27) k w (msk27_lt _ (Nat.le_refl _)) hlt)
        rw [in_msk hlt] at HI
        have HROW := Lib.hid hrow
        have HB := Lib.hid hb
        obtain ⟨m0, hm0⟩ : ∃ m, msk (R k) 27 = m := ⟨_, rfl⟩
        rw [hm0] at hc2 HI
        clear hrow hb hm0
        cases hRk : R k k with
        | true =>
          rw [hRk] at HI
          have HRN := Lib.hid (show ∀ j, j < k + 1 → R j j = true from fun j hj => by
            by_cases e : j = k
            · subst e; exact hRk
            · exact HRF.out j (by omega))
          clear hRk
          go_wp2_with (go_at_call 57; refine (HI.out _).mono ?_; rintro e w3 ⟨rfl, rfl⟩)
          go_roundw
          case rel => exact ⟨k + 1, by omega, by go_num, HRN, HROW.out, HB.out⟩
          case measure => simp [intOf]; omega
        | false =>
          rw [hRk] at HI
          have H := Lib.hid (show eqvB r = false by
            have : ¬ Eq27 (clo (withId R)) R := fun e => by
              have := ((clo_iff R).1 e).1 k hlt
              rw [hRk] at this; cases this
            have h2 : ¬ relS (clo (withId (relT r))) 27 = r := fun e => this (by have := (rel_is HVD.out _).1 e; rw [HREL.out] at this; exact this)
            simp [eqvB, h2])
          clear hRk
          go_wp2_with (go_at_call 57; refine (HI.out _).mono ?_; rintro e w3 ⟨rfl, rfl⟩)
          go_ret
          exact ⟨by rw [H.out]; rfl, HB.out⟩
      · obtain rfl : k = 27 := by omega
        have HRR := Lib.hid (show Refl27 R from HRF.out)
        have hg : Try.prog.eqGuardType Try.prog.depth 39 = false := by kernel_rfl
        have hE1 := arr_eq (fun i => msk (tn R i) 27) (fun i => msk (R i) 27)
        have hE2 := arr_eq (fun i => msk (sq R i) 27) (fun i => msk (R i) 27)
        have HT := Lib.hid (fun w => specTurn R w)
        have HC := Lib.hid (fun w => specCompose R R w)
        unfold arrR arr at HT HC
        have HRA := Lib.hid (row_range hrow)
        have HB := Lib.hid hb
        obtain ⟨ct, hct⟩ : ∃ c, cellsOf (fun i => msk (fun j => R j i) 27) = c := ⟨_, rfl⟩
        obtain ⟨cn, hcn⟩ : ∃ c, cellsOf (fun i => msk (fun u => joinB R R i 27 u) 27) = c := ⟨_, rfl⟩
        have hct' : cellsOf (fun i => msk (tn R i) 27) = ct := hct
        have hcn' : cellsOf (fun i => msk (sq R i) 27) = cn := hcn
        rw [HCO.out] at HT HC HRA
        rw [hct', HCO.out] at hE1
        rw [hcn', HCO.out] at hE2
        rw [hct] at HT
        rw [hcn] at HC
        have hina := Lib.hid (show (Try.prog.info? 39).map (·.size) = some co.length by rw [← HCO.out, cells_len]; exact info39)
        clear hct hcn hct' hcn' hrow hb HRF
        by_cases e1 : Eq27 (tn R) R
        · rw [msk_all e1] at hE1
          by_cases e2 : Eq27 (sq R) R
          · rw [msk_all e2] at hE2
            have H := Lib.hid (show eqvB r = true by
              have h1 : relS (tn (relT r)) 27 = r := (rel_is HVD.out _).2 (by rw [HREL.out]; exact e1)
              have h2 : relS (clo (withId (relT r))) 27 = r := (rel_is HVD.out _).2 (by rw [HREL.out]; exact (clo_iff R).2 ⟨HRR.out, e2⟩)
              simp [eqvB, h1, h2, HVD.out])
            clear e1 e2
            go_wp2_with fail
            refine wp_region_quiet_below (by kernel_rfl) (by kernel_rfl) ?_
            repeat (first
              | (refine wpQuiet_load_mid rfl 39 (.tmp 3) rfl N 0 rfl co _ (range_regrown HRA.out) Try.underlying39 rfl hina.out ?_
                 simp only [Act.put, List.setIfInBounds_toArray, List.set_cons_succ, List.set_cons_zero])
              | (go_big_quiet_step (first | (go_at_call 45; exact Calls.regrown_of (HT.out _)) | (go_at_call 54; exact Calls.regrown_of (HC.out _)))))
            refine wpQuiet_nil ?_
            intro _ hw'
            obtain ⟨⟨dq, osq⟩, hw''⟩ := hw'
            subst hw''
            go_wp2_with fail
            go_ret
            exact ⟨by rw [H.out]; rfl, HB.out.trans ((below_regrown _ _ _).mono HB.out.size)⟩
          · rw [msk_not e2] at hE2
            have H := Lib.hid (show eqvB r = false by
              have h2 : ¬ relS (clo (withId (relT r))) 27 = r := fun e => e2 (((clo_iff R).1 (by have := (rel_is HVD.out _).1 e; rw [HREL.out] at this; exact this)).2)
              simp [eqvB, h2])
            clear e1 e2
            go_wp2_with fail
            refine wp_region_quiet_below (by kernel_rfl) (by kernel_rfl) ?_
            repeat (first
              | (refine wpQuiet_load_mid rfl 39 (.tmp 3) rfl N 0 rfl co _ (range_regrown HRA.out) Try.underlying39 rfl hina.out ?_
                 simp only [Act.put, List.setIfInBounds_toArray, List.set_cons_succ, List.set_cons_zero])
              | (go_big_quiet_step (first | (go_at_call 45; exact Calls.regrown_of (HT.out _)) | (go_at_call 54; exact Calls.regrown_of (HC.out _)))))
            refine wpQuiet_nil ?_
            intro _ hw'
            obtain ⟨⟨dq, osq⟩, hw''⟩ := hw'
            subst hw''
            go_wp2_with fail
            go_ret
            exact ⟨by rw [H.out]; rfl, HB.out.trans ((below_regrown _ _ _).mono HB.out.size)⟩
        · rw [msk_not e1] at hE1
          have H := Lib.hid (show eqvB r = false by
            have h1 : ¬ relS (tn (relT r)) 27 = r := fun e => e1 (by have := (rel_is HVD.out _).1 e; rw [HREL.out] at this; exact this)
            simp [eqvB, h1])
          clear e1
          go_wp2_with fail
          refine wp_region_quiet_below (by kernel_rfl) (by kernel_rfl) ?_
          repeat (first
            | (refine wpQuiet_load_mid rfl 39 (.tmp 3) rfl N 0 rfl co _ (range_regrown HRA.out) Try.underlying39 rfl hina.out ?_
               simp only [Act.put, List.setIfInBounds_toArray, List.set_cons_succ, List.set_cons_zero])
            | (go_big_quiet_step (first | (go_at_call 45; exact Calls.regrown_of (HT.out _)) | (go_at_call 54; exact Calls.regrown_of (HC.out _)))))
          refine wpQuiet_nil ?_
          intro _ hw'
          obtain ⟨⟨dq, osq⟩, hw''⟩ := hw'
          subst hw''
          go_wp2_with fail
          go_ret
          exact ⟨by rw [H.out]; rfl, HB.out.trans ((below_regrown _ _ _).mono HB.out.size)⟩
theorem lawIsEquivalence (r : ByteArray) (w : World) (hr : r.size ≤ maxLen) : Calls Try.prog 9 #[.string r] w fun e w' => e = .returned (.bool true) ∧ Below w.heap.size w w' := by
  by_cases big : r.size ≤ 1048576
  case neg =>
    go_enter Try.func9, Try.ntmps9
    go_wp2
    go_ret
    exact ⟨rfl, Below.refl _ _⟩
  have h1 : (r.size : Int) ≤ 1048576 := by omega
  have HA := Lib.hid (fun w => specIsEquivalence r w big)
  have HB := Lib.hid (fun w => implIsEquivalence r w big)
  cases h : eqvB r
  all_goals
    rw [h] at HA HB
    clear h
    go_enter Try.func9, Try.ntmps9
    go_wp2_with (first
      | (go_at_call 28; refine (HA.out _).mono ?_; rintro e w1 ⟨rfl, hw1⟩)
      | (go_at_call 29; refine (HB.out _).mono ?_; rintro e w2 ⟨rfl, hw2⟩))
    go_ret
    exact ⟨rfl, hw1.trans (hw2.mono hw1.size)⟩
end Go.Proofs.Ytnamdobckkhceaa.Eq
