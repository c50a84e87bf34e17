/- Contracts and law: TurnRel. -/
import Derived.Test.YtnamdobckkhceaaRel
import Derived.Test.YtnamdobckkhceaaPair
namespace Go.Proofs.Ytnamdobckkhceaa.Tu
open Go.RowKit Go.Deep Go.Proofs.Ytnamdobckkhceaa.Bi Go.Proofs.Ytnamdobckkhceaa.Ro Go.Proofs.Ytnamdobckkhceaa.Se Go.Proofs.Ytnamdobckkhceaa.Mk Go.Proofs.Ytnamdobckkhceaa.Rl Go.Proofs.Ytnamdobckkhceaa.Nu
set_option linter.unusedVariables false

theorem three_laid (w : World) (t : TypeId) (c : Array Value) (f : Nat → Value) (hc : (w.alloc (.cells c t)).rowIs w.heap.size t 27 f) :
    ((((w.alloc (.cells c t)).alloc (.cells zero27 t)).alloc (.cells zero27 t)).setCells (w.heap.size + 2) 0 zero27.toList).rowIs (w.heap.size + 2) t 27 (fun _ => .int .i64 0) ∧
    (∃ f, ((((w.alloc (.cells c t)).alloc (.cells zero27 t)).alloc (.cells zero27 t)).setCells (w.heap.size + 2) 0 zero27.toList).rowIs (w.heap.size + 1) t 27 f) ∧
    ((((w.alloc (.cells c t)).alloc (.cells zero27 t)).alloc (.cells zero27 t)).setCells (w.heap.size + 2) 0 zero27.toList).rowIs w.heap.size t 27 f ∧
    Below w.heap.size w ((((w.alloc (.cells c t)).alloc (.cells zero27 t)).alloc (.cells zero27 t)).setCells (w.heap.size + 2) 0 zero27.toList) := by
  have h := rows_laid (w.alloc (.cells c t)) t
  rw [show (w.alloc (.cells c t)).heap.size = w.heap.size + 1 by simp] at h
  obtain ⟨h1, h2, h3⟩ := h
  exact ⟨h1, h2, row_other _ _ _ _ ((hc.alloc _).alloc _) (by omega), ((Below.refl _ w).alloc (Nat.le_refl _) _).trans (h3.mono (by omega))⟩
/-- The turned relation, behind i rows and j columns of the next one. -/
def tuN (R : Nat → Nat → Bool) (i j : Nat) (u : Nat) : Nat := msk (fun i' => R i' u) (if u < j then i + 1 else i)
theorem tu_lt (R : Nat → Nat → Bool) {i j u : Nat} (h : i < 27) : tuN R i j u < 134217728 := by
  unfold tuN
  split
  · exact msk27_lt _ (by omega)
  · exact msk27_lt _ (by omega)
theorem tu_next (R : Nat → Nat → Bool) (i u : Nat) (h : u < 27) : tuN R i 27 u = tuN R (i + 1) 0 u := by simp [tuN, h]
theorem tu_set {w : World} {b t : Nat} {R : Nat → Nat → Bool} {i j : Nat} (h : w.rowIs b t 27 (fun u => .int .i64 (tuN R i j u : Int))) {v : Value} (hv : v = .int .i64 (tuN R i (j + 1) j : Int)) :
    (w.setCell ⟨b, j, none⟩ v).rowIs b t 27 (fun u => .int .i64 (tuN R i (j + 1) u : Int)) := (h.set j v).congr fun u _ => by
  subst hv
  by_cases e : u = j
  · subst e; simp
  · simp only [if_neg e]
    have : tuN R i j u = tuN R i (j + 1) u := by
      unfold tuN
      by_cases h1 : u < j
      · rw [if_pos h1, if_pos (by omega)]
      · rw [if_neg h1, if_neg (by omega)]
    rw [this]
theorem tu_keep {w : World} {b t : Nat} {R : Nat → Nat → Bool} {i j : Nat} (h : w.rowIs b t 27 (fun u => .int .i64 (tuN R i j u : Int))) (hr : R i j = false) :
    w.rowIs b t 27 (fun u => .int .i64 (tuN R i (j + 1) u : Int)) := h.congr fun u _ => by
  by_cases e : u = j
  · subst e
    simp [tuN, msk, hr]
  · have : tuN R i j u = tuN R i (j + 1) u := by
      unfold tuN
      by_cases h1 : u < j
      · rw [if_pos h1, if_pos (by omega)]
      · rw [if_neg h1, if_neg (by omega)]
    rw [this]
set_option maxRecDepth 100000 in
set_option maxHeartbeats 2000000 in
theorem turnAny (R : Nat → Nat → Bool) (g : Nat → Nat) (w : World)
    (HI : Hid (∀ i j : Nat, i < 27 → j < 27 → ∀ w, Calls Try.prog 57 #[.int .i64 (g i : Int), .int .i64 (j : Int)] w fun e w' => e = .returned (.bool (R i j)) ∧ w = w')) :
    Calls Try.prog 45 #[arr g] w fun e w' => e = .returned (arr fun u => msk (fun i => R i u) 27) ∧ Below w.heap.size w w' := by
  have hth0 : (((w.alloc (.cells (cellsOf g).toArray 39)).alloc (.cells zero27 39)).alloc (.cells zero27 39)).there (w.heap.size + 2) 0 27 := by
    have := (rows_two (w.alloc (.cells (cellsOf g).toArray 39)) 39).1
    rw [show (w.alloc (.cells (cellsOf g).toArray 39)).heap.size = w.heap.size + 1 by simp] at this
    exact row_there this
  have hla := three_laid w 39 _ _ (row_box w g 39)
  unfold arr
  obtain ⟨c0, hc0⟩ : ∃ cs, (cellsOf g).toArray = cs := ⟨_, rfl⟩
  rw [hc0] at hth0 hla ⊢
  have hth := Lib.hid hth0
  have HLA := Lib.hid hla
  have hone := Lib.hid zero_one
  clear hc0 hth0 hla
  go_enter Try.func45, Try.ntmps45
  go_wp2_with (refine wpList_store_mid rfl 39 (.tmp 3) (.tmp 6) rfl (w.heap.size + 2) 0 zero27 rfl rfl hth.out info39 hone.out ?_)
  refine wp_world (fun W => W.rowIs (w.heap.size + 2) 39 27 (fun _ => .int .i64 0) ∧ (∃ f, W.rowIs (w.heap.size + 1) 39 27 f) ∧ W.rowIs w.heap.size 39 27 (fun i => .int .i64 (g i : Int)) ∧ Below w.heap.size w W) HLA.out ?_
  rintro W0 ⟨r0, r1, r2, r3⟩
  go_loopw [4, 5] (fun i u wr => ∃ k : Nat, k ≤ 27 ∧ i = .int .i64 k ∧ wr.rowIs (w.heap.size + 2) 39 27 (fun u => .int .i64 (tuN R k 0 u : Int)) ∧ (∃ f, wr.rowIs (w.heap.size + 1) 39 27 f) ∧ wr.rowIs w.heap.size 39 27 (fun i => .int .i64 (g i : Int)) ∧ Below w.heap.size w wr) (fun i _ _ => 27 - (intOf i).toNat)
  case atStart => exact ⟨0, Nat.zero_le _, rfl, r0.congr fun i _ => by simp [tuN, msk], r1, r2, r3⟩
  case round =>
    obtain ⟨k, hk, rfl, hrow, hres, hbox, hb⟩ := hrel
    by_cases hlt : k < 27
    · have hd : decide ((k : Int) < 27) = true := by simp; omega
      go_wp2_with fail
      go_loopw [5] (fun u wr => ∃ j : Nat, j ≤ 27 ∧ u = .int .i64 j ∧ wr.rowIs (w.heap.size + 2) 39 27 (fun u => .int .i64 (tuN R k j u : Int)) ∧ (∃ f, wr.rowIs (w.heap.size + 1) 39 27 f) ∧ wr.rowIs w.heap.size 39 27 (fun i => .int .i64 (g i : Int)) ∧ Below w.heap.size w wr) (fun u _ => 27 - (intOf u).toNat)
      case atStart => exact ⟨0, Nat.zero_le _, rfl, hrow, hres, hbox, hb⟩
      case round =>
        clear hrow hres hbox hb
        obtain ⟨j, hj, rfl, hrow, hres, hbox, hb⟩ := hrel
        by_cases hlj : j < 27
        · have hc1 := hbox.cell hlt
          have hc2 := hrow.cell hlj
          have hfz := hrow.frozen j
          have HC := Lib.hid (HI.out k j hlt hlj)
          have hmj : (tuN R k j j : Int) = (msk (fun i' => R i' j) k : Int) := by simp [tuN]
          rw [hmj] at hc2
          cases hR : R k j with
          | true =>
            have hnew := msk_step (f := fun i' => R i' j) hlt
            have HV := Lib.hid (show ((msk (fun i' => R i' j) k ||| 2 ^ k : Nat) : Int) = (tuN R k (j + 1) j : Int) by simp [tuN, msk, hR])
            rw [HV.out] at hnew
            have HR := Lib.hid (tu_set hrow (v := .int .i64 (tuN R k (j + 1) j : Int)) rfl)
            obtain ⟨f, hf⟩ := hres
            have HF := Lib.hid (show ∃ f, (wr.setCell ⟨w.heap.size + 2, j, none⟩ (.int .i64 (tuN R k (j + 1) j : Int))).rowIs (w.heap.size + 1) 39 27 f from ⟨f, hf.setOther (by simp) _⟩)
            have HBX := Lib.hid (hbox.setOther (a := ⟨w.heap.size + 2, j, none⟩) (by simp) (.int .i64 (tuN R k (j + 1) j : Int)))
            have HB := Lib.hid (hb.setCell (p := ⟨w.heap.size + 2, j, none⟩) (show w.heap.size ≤ w.heap.size + 2 by omega) (.int .i64 (tuN R k (j + 1) j : Int)))
            rw [hR] at HC
            obtain ⟨m0, hm0⟩ : ∃ m, msk (fun i' => R i' j) k = m := ⟨_, rfl⟩
            obtain ⟨m1, hm1⟩ : ∃ m, tuN R k (j + 1) j = m := ⟨_, rfl⟩
            rw [hm0] at hc2 hnew
            rw [hm1] at hnew HR HF HBX HB
            clear hrow hbox hb hf hR HV hmj hm0 hm1
            go_wp2_with fail
            refine (HC.out _).mono ?_
            rintro e w1 ⟨rfl, rfl⟩
            go_wp2_with fail
            go_roundw
            case rel => exact ⟨j + 1, by omega, by go_num, HR.out, HF.out, HBX.out, HB.out⟩
            case measure => simp [intOf]; omega
          | false =>
            have HR := Lib.hid (tu_keep hrow hR)
            have HF := Lib.hid hres
            have HBX := Lib.hid hbox
            have HB := Lib.hid hb
            rw [hR] at HC
            clear hrow hres hbox hb hR hc2 hmj
            go_wp2_with fail
            refine (HC.out _).mono ?_
            rintro e w1 ⟨rfl, rfl⟩
            go_wp2_with fail
            go_roundw
            case rel => exact ⟨j + 1, by omega, by go_num, HR.out, HF.out, HBX.out, HB.out⟩
            case measure => simp [intOf]; omega
        · obtain rfl : j = 27 := by omega
          have HR := Lib.hid (hrow.congr fun u hu => by rw [tu_next R k u hu])
          have HF := Lib.hid hres
          have HBX := Lib.hid hbox
          have HB := Lib.hid hb
          clear hrow hres hbox hb
          go_wp2_with fail
          go_roundw
          case rel => exact ⟨k + 1, by omega, by go_num, HR.out, HF.out, HBX.out, HB.out⟩
          case measure => simp [intOf]; omega
    · obtain rfl : k = 27 := by omega
      obtain ⟨f, hf⟩ := hres
      have hrow' : wr.rowIs (w.heap.size + 2) 39 27 (fun u => .int .i64 ((msk (fun i => R i u) 27 : Nat) : Int)) := hrow.congr fun u _ => by simp [tuN]
      obtain ⟨g2, hg2⟩ : ∃ g2 : Nat → Nat, (fun u => msk (fun i => R i u) 27) = g2 := ⟨_, rfl⟩
      have hrow2 : wr.rowIs (w.heap.size + 2) 39 27 (fun u => .int .i64 ((g2 u : Nat) : Int)) := by rw [← hg2]; exact hrow'
      obtain ⟨cs, hcs⟩ : ∃ cs, cellsOf g2 = cs := ⟨_, rfl⟩
      have hlen : cs.length = 27 := by rw [← hcs, cells_len]
      have hra := Lib.hid (row_range hrow2)
      have hth := Lib.hid (show wr.there (w.heap.size + 1) 0 cs.toArray.size by simpa [hlen] using row_there hf)
      have hin := Lib.hid (show (Try.prog.info? 39).map (·.size) = some cs.length by rw [hlen]; exact info39)
      have hin2 := Lib.hid (show (Try.prog.info? 39).map (·.size) = some cs.toArray.size by simpa [hlen] using info39)
      have hre := run_loadVar_mid (P := Try.prog) (wr.setCells (w.heap.size + 1) 0 (cellsOf g2)) (w.heap.size + 1) 0 39 _ _ (set_range wr (w.heap.size + 1) g2 (row_there hf)) Try.underlying39 rfl (by rw [cells_len]; exact info39)
      have hone := Lib.hid (all_oneCell_toArray (cells_one g2))
      have HAA := Lib.hid (show Value.agg cs.toArray = .agg (cellsOf fun u => msk (fun i => R i u) 27).toArray by rw [hg2, hcs])
      rw [hcs] at hra hone hre
      have HRE := Lib.hid hre
      have HB := Lib.hid (below_cells (show w.heap.size ≤ w.heap.size + 1 by omega) cs 0 wr hb)
      clear hf hrow hrow' hrow2 hb hcs hre hbox hg2
      go_wp2_with (first
        | (refine wpList_load_mid rfl 39 (.tmp 3) rfl (w.heap.size + 2) 0 rfl cs _ hra.out Try.underlying39 rfl hin.out ?_)
        | (refine wpList_store_mid rfl 39 (.tmp 2) (.tmp 29) rfl (w.heap.size + 1) 0 cs.toArray rfl rfl hth.out hin2.out hone.out ?_))
      refine bodyPost_ret (v := .agg cs.toArray) ?_ rfl ⟨by rw [HAA.out], HB.out⟩
      exact results_cell Try.results45 _ ⟨w.heap.size + 1, 0, none⟩ rfl HRE.out
theorem specTurn (R : Nat → Nat → Bool) (w : World) : Calls Try.prog 45 #[arrR R] w fun e w' => e = .returned (arrR fun i j => R j i) ∧ Below w.heap.size w w' :=
  turnAny R _ w (Lib.hid fun i j hi hj w => by have := specIn (msk (R i) 27) j w (msk27_lt _ (Nat.le_refl _)) hj; rw [in_msk hj] at this; exact this)
end Go.Proofs.Ytnamdobckkhceaa.Tu
