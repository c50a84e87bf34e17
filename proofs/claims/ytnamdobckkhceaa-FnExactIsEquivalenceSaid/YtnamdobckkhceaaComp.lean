/- Contracts and law: ComposeRel. -/
import Derived.Test.YtnamdobckkhceaaTurnl
import Derived.BigRegion
namespace Go.Proofs.Ytnamdobckkhceaa.Cp
open Go.RowKit Go.Deep Go.Proofs.Ytnamdobckkhceaa.Bi Go.Proofs.Ytnamdobckkhceaa.Ro Go.Proofs.Ytnamdobckkhceaa.Se Go.Proofs.Ytnamdobckkhceaa.Mk Go.Proofs.Ytnamdobckkhceaa.Rl Go.Proofs.Ytnamdobckkhceaa.Nu Go.Proofs.Ytnamdobckkhceaa.Tu Go.Proofs.Ytnamdobckkhceaa.Tl
set_option linter.unusedVariables false

/-- Are i and u joined by one of the first j states? -/
def joinB (R Q : Nat → Nat → Bool) (i j u : Nat) : Bool := (List.range j).any fun v => R i v && Q v u
theorem join_zero (R Q : Nat → Nat → Bool) (i u : Nat) : joinB R Q i 0 u = false := rfl
theorem join_step (R Q : Nat → Nat → Bool) (i j u : Nat) : joinB R Q i (j + 1) u = (joinB R Q i j u || (R i j && Q j u)) := by
  unfold joinB
  rw [List.range_succ, List.any_append]
  simp
/-- The composed relation, behind i rows and j columns of the next one. -/
def cpN (R Q : Nat → Nat → Bool) (i j x : Nat) : Nat := if x < i then msk (joinB R Q x 27) 27 else if x = i then msk (joinB R Q i j) 27 else 0
theorem cp_next (R Q : Nat → Nat → Bool) (i x : Nat) : cpN R Q i 27 x = cpN R Q (i + 1) 0 x := by
  unfold cpN
  by_cases h1 : x < i
  · rw [if_pos h1, if_pos (by omega)]
  · rw [if_neg h1]
    by_cases h2 : x = i
    · subst h2; rw [if_pos rfl, if_pos (by omega)]
    · rw [if_neg h2, if_neg (by omega)]
      by_cases h3 : x = i + 1
      · rw [if_pos h3, show joinB R Q (i + 1) 0 = fun _ => false from rfl, msk_none]
      · rw [if_neg h3]
theorem cp_here (R Q : Nat → Nat → Bool) (i j : Nat) : cpN R Q i j i = msk (joinB R Q i j) 27 := by simp [cpN]
theorem cp_more (R Q : Nat → Nat → Bool) (i j : Nat) (h : R i j = true) : msk (joinB R Q i j) 27 ||| msk (Q j) 27 = msk (joinB R Q i (j + 1)) 27 := by
  rw [msk_or]
  exact msk_congr fun u _ => by rw [join_step, h, Bool.true_and]
theorem cp_same (R Q : Nat → Nat → Bool) (i j : Nat) (h : R i j = false) : msk (joinB R Q i (j + 1)) 27 = msk (joinB R Q i j) 27 := msk_congr fun u _ => by rw [join_step, h, Bool.false_and, Bool.or_false]
theorem cp_set {w : World} {b t : Nat} {R Q : Nat → Nat → Bool} {i j : Nat} (h : w.rowIs b t 27 (fun u => .int .i64 (cpN R Q i j u : Int))) {v : Value} (hv : v = .int .i64 (msk (joinB R Q i (j + 1)) 27 : Int)) :
    (w.setCell ⟨b, i, none⟩ v).rowIs b t 27 (fun u => .int .i64 (cpN R Q i (j + 1) u : Int)) := (h.set i v).congr fun u _ => by
  subst hv
  by_cases e : u = i
  · subst e; simp [cp_here]
  · simp only [if_neg e]
    have : cpN R Q i j u = cpN R Q i (j + 1) u := by simp [cpN, e]
    rw [this]
theorem cp_keep {w : World} {b t : Nat} {R Q : Nat → Nat → Bool} {i j : Nat} (h : w.rowIs b t 27 (fun u => .int .i64 (cpN R Q i j u : Int))) (hr : R i j = false) :
    w.rowIs b t 27 (fun u => .int .i64 (cpN R Q i (j + 1) u : Int)) := h.congr fun u _ => by
  have : cpN R Q i j u = cpN R Q i (j + 1) u := by
    by_cases e : u = i
    · subst e; rw [cp_here, cp_here, cp_same R Q u j hr]
    · simp [cpN, e]
  rw [this]
theorem four_laid (w : World) (t : TypeId) (c d : Array Value) (f g : Nat → Value) (hc : (w.alloc (.cells c t)).rowIs w.heap.size t 27 f) (hd : ((w.alloc (.cells c t)).alloc (.cells d t)).rowIs (w.heap.size + 1) t 27 g) :
    (((((w.alloc (.cells c t)).alloc (.cells d t)).alloc (.cells zero27 t)).alloc (.cells zero27 t)).setCells (w.heap.size + 3) 0 zero27.toList).rowIs (w.heap.size + 3) t 27 (fun _ => .int .i64 0) ∧
    (∃ f, (((((w.alloc (.cells c t)).alloc (.cells d t)).alloc (.cells zero27 t)).alloc (.cells zero27 t)).setCells (w.heap.size + 3) 0 zero27.toList).rowIs (w.heap.size + 2) t 27 f) ∧
    (((((w.alloc (.cells c t)).alloc (.cells d t)).alloc (.cells zero27 t)).alloc (.cells zero27 t)).setCells (w.heap.size + 3) 0 zero27.toList).rowIs w.heap.size t 27 f ∧
    (((((w.alloc (.cells c t)).alloc (.cells d t)).alloc (.cells zero27 t)).alloc (.cells zero27 t)).setCells (w.heap.size + 3) 0 zero27.toList).rowIs (w.heap.size + 1) t 27 g ∧
    Below w.heap.size w (((((w.alloc (.cells c t)).alloc (.cells d t)).alloc (.cells zero27 t)).alloc (.cells zero27 t)).setCells (w.heap.size + 3) 0 zero27.toList) := by
  have h := rows_laid ((w.alloc (.cells c t)).alloc (.cells d t)) t
  rw [show ((w.alloc (.cells c t)).alloc (.cells d t)).heap.size = w.heap.size + 2 by simp] at h
  obtain ⟨h1, h2, h3⟩ := h
  exact ⟨h1, h2, row_other _ _ _ _ (((hc.alloc _).alloc _).alloc _) (by omega), row_other _ _ _ _ ((hd.alloc _).alloc _) (by omega), (((Below.refl _ w).alloc (Nat.le_refl _) _).alloc (by simp) _).trans (h3.mono (by omega))⟩
set_option maxRecDepth 100000 in
set_option maxHeartbeats 2000000 in
theorem compAny (R Q : Nat → Nat → Bool) (g q : Nat → Nat) (w : World)
    (HI : Hid (∀ i j : Nat, i < 27 → j < 27 → ∀ w, Calls Try.prog 57 #[.int .i64 (g i : Int), .int .i64 (j : Int)] w fun e w' => e = .returned (.bool (R i j)) ∧ w = w')) (HQ : Hid (∀ j, q j = msk (Q j) 27)) :
    Calls Try.prog 54 #[arr g, arr q] w fun e w' => e = .returned (arr fun i => msk (joinB R Q i 27) 27) ∧ Below w.heap.size w w' := by
  have hd0 := row_box (w.alloc (.cells (cellsOf g).toArray 39)) q 39
  rw [show (w.alloc (.cells (cellsOf g).toArray 39)).heap.size = w.heap.size + 1 by simp] at hd0
  have hth0 : ((((w.alloc (.cells (cellsOf g).toArray 39)).alloc (.cells (cellsOf q).toArray 39)).alloc (.cells zero27 39)).alloc (.cells zero27 39)).there (w.heap.size + 3) 0 27 := by
    have := (rows_two ((w.alloc (.cells (cellsOf g).toArray 39)).alloc (.cells (cellsOf q).toArray 39)) 39).1
    rw [show ((w.alloc (.cells (cellsOf g).toArray 39)).alloc (.cells (cellsOf q).toArray 39)).heap.size = w.heap.size + 2 by simp] at this
    exact row_there this
  have hla := four_laid w 39 _ _ _ _ (row_box w g 39) hd0
  unfold arr
  obtain ⟨c0, hc0⟩ : ∃ cs, (cellsOf g).toArray = cs := ⟨_, rfl⟩
  obtain ⟨d0, hd00⟩ : ∃ cs, (cellsOf q).toArray = cs := ⟨_, rfl⟩
  rw [hc0, hd00] at hth0 hla
  rw [hc0, hd00]
  have hth := Lib.hid hth0
  have HLA := Lib.hid hla
  have hone := Lib.hid zero_one
  clear hc0 hd00 hth0 hla hd0
  go_enter Try.func54, Try.ntmps54
  go_wp2_with (refine wpList_store_mid rfl 39 (.tmp 5) (.tmp 8) rfl (w.heap.size + 3) 0 zero27 rfl rfl hth.out info39 hone.out ?_)
  refine wp_world (fun W => W.rowIs (w.heap.size + 3) 39 27 (fun _ => .int .i64 0) ∧ (∃ f, W.rowIs (w.heap.size + 2) 39 27 f) ∧ W.rowIs w.heap.size 39 27 (fun i => .int .i64 (g i : Int)) ∧ W.rowIs (w.heap.size + 1) 39 27 (fun i => .int .i64 (q i : Int)) ∧ Below w.heap.size w W) HLA.out ?_
  rintro W0 ⟨r0, r1, r2, r2', r3⟩
  go_loopw [6, 7] (fun i u wr => ∃ k : Nat, k ≤ 27 ∧ i = .int .i64 k ∧ wr.rowIs (w.heap.size + 3) 39 27 (fun u => .int .i64 (cpN R Q k 0 u : Int)) ∧ (∃ f, wr.rowIs (w.heap.size + 2) 39 27 f) ∧ wr.rowIs w.heap.size 39 27 (fun i => .int .i64 (g i : Int)) ∧ wr.rowIs (w.heap.size + 1) 39 27 (fun i => .int .i64 (q i : Int)) ∧ Below w.heap.size w wr) (fun i _ _ => 27 - (intOf i).toNat)
  case atStart => exact ⟨0, Nat.zero_le _, rfl, r0.congr fun i _ => by
    have : cpN R Q 0 0 i = 0 := by
      unfold cpN
      rw [if_neg (by omega)]
      split
      · rw [show joinB R Q 0 0 = fun _ => false from rfl, msk_none]
      · rfl
    rw [this]; rfl, r1, r2, r2', r3⟩
  case round =>
    obtain ⟨k, hk, rfl, hrow, hres, hbox, hbq, hb⟩ := hrel
    by_cases hlt : k < 27
    · have hd : decide ((k : Int) < 27) = true := by simp; omega
      go_wp2_with fail
      go_loopw [7] (fun u wr => ∃ j : Nat, j ≤ 27 ∧ u = .int .i64 j ∧ wr.rowIs (w.heap.size + 3) 39 27 (fun u => .int .i64 (cpN R Q k j u : Int)) ∧ (∃ f, wr.rowIs (w.heap.size + 2) 39 27 f) ∧ wr.rowIs w.heap.size 39 27 (fun i => .int .i64 (g i : Int)) ∧ wr.rowIs (w.heap.size + 1) 39 27 (fun i => .int .i64 (q i : Int)) ∧ Below w.heap.size w wr) (fun u _ => 27 - (intOf u).toNat)
      case atStart => exact ⟨0, Nat.zero_le _, rfl, hrow, hres, hbox, hbq, hb⟩
      case round =>
        clear hrow hres hbox hbq hb
        obtain ⟨j, hj, rfl, hrow, hres, hbox, hbq, hb⟩ := hrel
        by_cases hlj : j < 27
        · have hc1 := hbox.cell hlt
          have HC := Lib.hid (HI.out k j hlt hlj)
          cases hR : R k j with
          | true =>
            have hc2 := hrow.cell hlt
            rw [cp_here] at hc2
            have hc3 := hbq.cell hlj
            have hfz := hrow.frozen k
            have hnew := or_i64 (msk27_lt (joinB R Q k j) (n := 27) (Nat.le_refl _)) (show q j < 134217728 by rw [HQ.out j]; exact msk27_lt _ (Nat.le_refl _))
            rw [show msk (joinB R Q k j) 27 ||| q j = msk (joinB R Q k (j + 1)) 27 by rw [HQ.out j]; exact cp_more R Q k j hR] at hnew
            have HR := Lib.hid (cp_set hrow (v := .int .i64 (msk (joinB R Q k (j + 1)) 27 : Int)) rfl)
            obtain ⟨f, hf⟩ := hres
            have HF := Lib.hid (show ∃ f, (wr.setCell ⟨w.heap.size + 3, k, none⟩ (.int .i64 (msk (joinB R Q k (j + 1)) 27 : Int))).rowIs (w.heap.size + 2) 39 27 f from ⟨f, hf.setOther (by simp) _⟩)
            have HBX := Lib.hid (hbox.setOther (a := ⟨w.heap.size + 3, k, none⟩) (by simp) (.int .i64 (msk (joinB R Q k (j + 1)) 27 : Int)))
            have HBQ := Lib.hid (hbq.setOther (a := ⟨w.heap.size + 3, k, none⟩) (by simp) (.int .i64 (msk (joinB R Q k (j + 1)) 27 : Int)))
            have HB := Lib.hid (hb.setCell (p := ⟨w.heap.size + 3, k, none⟩) (show w.heap.size ≤ w.heap.size + 3 by omega) (.int .i64 (msk (joinB R Q k (j + 1)) 27 : Int)))
            rw [hR] at HC
            obtain ⟨m0, hm0⟩ : ∃ m, msk (joinB R Q k j) 27 = m := ⟨_, rfl⟩
            obtain ⟨m1, hm1⟩ : ∃ m, msk (joinB R Q k (j + 1)) 27 = m := ⟨_, rfl⟩
            rw [hm0] at hc2 hnew
            rw [hm1] at hnew HR HF HBX HBQ HB
            clear hrow hbox hbq hb hf hR hm0 hm1
            go_wp2_with fail
            refine (HC.out _).mono ?_
            rintro e w1 ⟨rfl, rfl⟩
            go_wp2_with fail
            go_region
            go_wp2_with fail
            go_roundw
            case rel => exact ⟨j + 1, by omega, by go_num, HR.out, HF.out, HBX.out, HBQ.out, HB.out.drew⟩
            case measure => simp [intOf]; omega
          | false =>
            have HR := Lib.hid (cp_keep hrow hR)
            have HF := Lib.hid hres
            have HBX := Lib.hid hbox
            have HBQ := Lib.hid hbq
            have HB := Lib.hid hb
            rw [hR] at HC
            clear hrow hres hbox hbq hb hR
            go_wp2_with fail
            refine (HC.out _).mono ?_
            rintro e w1 ⟨rfl, rfl⟩
            go_wp2_with fail
            go_roundw
            case rel => exact ⟨j + 1, by omega, by go_num, HR.out, HF.out, HBX.out, HBQ.out, HB.out⟩
            case measure => simp [intOf]; omega
        · obtain rfl : j = 27 := by omega
          have HR := Lib.hid (hrow.congr fun u hu => by rw [cp_next R Q k u])
          have HF := Lib.hid hres
          have HBX := Lib.hid hbox
          have HBQ := Lib.hid hbq
          have HB := Lib.hid hb
          clear hrow hres hbox hbq hb
          go_wp2_with fail
          go_roundw
          case rel => exact ⟨k + 1, by omega, by go_num, HR.out, HF.out, HBX.out, HBQ.out, HB.out⟩
          case measure => simp [intOf]; omega
    · obtain rfl : k = 27 := by omega
      obtain ⟨f, hf⟩ := hres
      have hrow' : wr.rowIs (w.heap.size + 3) 39 27 (fun u => .int .i64 ((msk (joinB R Q u 27) 27 : Nat) : Int)) := hrow.congr fun u hu => by simp only [cpN, if_pos hu]
      obtain ⟨g2, hg2⟩ : ∃ g2 : Nat → Nat, (fun u => msk (joinB R Q u 27) 27) = g2 := ⟨_, rfl⟩
      have hrow2 : wr.rowIs (w.heap.size + 3) 39 27 (fun u => .int .i64 ((g2 u : Nat) : Int)) := by rw [← hg2]; exact hrow'
      obtain ⟨cs, hcs⟩ : ∃ cs, cellsOf g2 = cs := ⟨_, rfl⟩
      have hlen : cs.length = 27 := by rw [← hcs, cells_len]
      have hra := Lib.hid (row_range hrow2)
      have hth := Lib.hid (show wr.there (w.heap.size + 2) 0 cs.toArray.size by simpa [hlen] using row_there hf)
      have hin := Lib.hid (show (Try.prog.info? 39).map (·.size) = some cs.length by rw [hlen]; exact info39)
      have hin2 := Lib.hid (show (Try.prog.info? 39).map (·.size) = some cs.toArray.size by simpa [hlen] using info39)
      have hre := run_loadVar_mid (P := Try.prog) (wr.setCells (w.heap.size + 2) 0 (cellsOf g2)) (w.heap.size + 2) 0 39 _ _ (set_range wr (w.heap.size + 2) g2 (row_there hf)) Try.underlying39 rfl (by rw [cells_len]; exact info39)
      have hone := Lib.hid (all_oneCell_toArray (cells_one g2))
      have HAA := Lib.hid (show Value.agg cs.toArray = .agg (cellsOf fun u => msk (joinB R Q u 27) 27).toArray by rw [hg2, hcs])
      rw [hcs] at hra hone hre
      have HRE := Lib.hid hre
      have HB := Lib.hid (below_cells (show w.heap.size ≤ w.heap.size + 2 by omega) cs 0 wr hb)
      clear hf hrow hrow' hrow2 hb hcs hre hbox hbq hg2
      go_wp2_with (first
        | (refine wpList_load_mid rfl 39 (.tmp 5) rfl (w.heap.size + 3) 0 rfl cs _ hra.out Try.underlying39 rfl hin.out ?_)
        | (refine wpList_store_mid rfl 39 (.tmp 4) (.tmp 31) rfl (w.heap.size + 2) 0 cs.toArray rfl rfl hth.out hin2.out hone.out ?_))
      refine bodyPost_ret (v := .agg cs.toArray) ?_ rfl ⟨by rw [HAA.out], HB.out⟩
      exact results_cell Try.results54 _ ⟨w.heap.size + 2, 0, none⟩ rfl HRE.out
theorem specCompose (R Q : Nat → Nat → Bool) (w : World) : Calls Try.prog 54 #[arrR R, arrR Q] w fun e w' => e = .returned (arrR fun i u => joinB R Q i 27 u) ∧ Below w.heap.size w w' :=
  compAny R Q _ _ w (Lib.hid fun i j hi hj w => by have := specIn (msk (R i) 27) j w (msk27_lt _ (Nat.le_refl _)) hj; rw [in_msk hj] at this; exact this) (Lib.hid fun j => rfl)
theorem join_true {R Q : Nat → Nat → Bool} {i u k : Nat} (hk : k < 27) (h1 : R i k = true) (h2 : Q k u = true) : joinB R Q i 27 u = true := by
  unfold joinB
  rw [List.any_eq_true]
  exact ⟨k, by simpa using hk, by rw [h1, h2]; rfl⟩
set_option maxHeartbeats 1000000 in
theorem tells_comp (r q : ByteArray) (w : World) (b1 b2 : Nat) (hc1 : w.cell? ⟨b1, 0, none⟩ = some (.string r)) (hc2 : w.cell? ⟨b2, 0, none⟩ = some (.string q)) (hs1 : r.size = 729) (hs2 : q.size = 729) :
    Tells2 68 #[.pointer (some ⟨b1, 0, none⟩), .pointer (some ⟨b2, 0, none⟩)] (fun i j => joinB (relT r) (relT q) i 27 j) w := by
  intro i j hi hj W hb
  have c1 := (hb.cell (p := ⟨b1, 0, none⟩) (block_lt_of_cell hc1)).trans hc1
  have c2 := (hb.cell (p := ⟨b2, 0, none⟩) (block_lt_of_cell hc2)).trans hc2
  have HP := Lib.hid (fun u (hu : u < 27) w => implPair r i u w hs1 hi hu)
  have HQ := Lib.hid (fun u (hu : u < 27) w => implPair q u j w hs2 hu hj)
  show Calls Try.prog 68 #[.int .i64 (i : Int), .int .i64 (j : Int), .pointer (some ⟨b1, 0, none⟩), .pointer (some ⟨b2, 0, none⟩)] W _
  clear hc1 hc2 hb
  go_enter Try.func68, Try.ntmps68
  go_wp2_with fail
  go_loop [7, 8] (fun u k => ∃ n : Nat, n ≤ 27 ∧ k = .int .i64 n ∧ joinB (relT r) (relT q) i n j = false) (fun _ k => 27 - (intOf k).toNat)
  case atStart => exact ⟨0, Nat.zero_le _, rfl, rfl⟩
  case round =>
    obtain ⟨n, hn, rfl, hj0⟩ := hrel
    by_cases hlt : n < 27
    · have HC1 := Lib.hid (HP.out n hlt)
      have HC2 := Lib.hid (HQ.out n hlt)
      have hst := join_step (relT r) (relT q) i n j
      cases e1 : one r (27 * i + n) with
      | true =>
        cases e2 : one q (27 * n + j) with
        | true =>
          have HT := Lib.hid (join_true (R := relT r) (Q := relT q) (i := i) (u := j) hlt e1 e2)
          rw [e1] at HC1
          rw [e2] at HC2
          clear hst hj0 e1 e2
          go_wp2_with fail
          refine (HC1.out _).mono ?_
          rintro e w1 ⟨rfl, rfl⟩
          go_wp2_with fail
          refine (HC2.out _).mono ?_
          rintro e w1 ⟨rfl, rfl⟩
          go_wp2_with fail
          go_ret
          exact ⟨by rw [HT.out]; rfl, Below.refl _ _⟩
        | false =>
          have HT := Lib.hid (show joinB (relT r) (relT q) i (n + 1) j = false by rw [hst, hj0, show relT q n j = false from e2]; simp)
          rw [e1] at HC1
          rw [e2] at HC2
          clear hst hj0 e1 e2
          go_wp2_with fail
          refine (HC1.out _).mono ?_
          rintro e w1 ⟨rfl, rfl⟩
          go_wp2_with fail
          refine (HC2.out _).mono ?_
          rintro e w1 ⟨rfl, rfl⟩
          go_wp2_with fail
          go_round
          case rel => exact ⟨n + 1, by omega, by go_num, HT.out⟩
          case measure => simp [intOf]; omega
      | false =>
        have HT := Lib.hid (show joinB (relT r) (relT q) i (n + 1) j = false by rw [hst, hj0, show relT r i n = false from e1]; simp)
        rw [e1] at HC1
        clear hst hj0 e1
        go_wp2_with fail
        refine (HC1.out _).mono ?_
        rintro e w1 ⟨rfl, rfl⟩
        go_wp2_with fail
        go_round
        case rel => exact ⟨n + 1, by omega, by go_num, HT.out⟩
        case measure => simp [intOf]; omega
    · obtain rfl : n = 27 := by omega
      have HT := Lib.hid hj0
      clear hj0
      go_wp2_with fail
      go_ret
      exact ⟨by rw [HT.out]; rfl, Below.refl _ _⟩
theorem implComposed (r q : ByteArray) (w : World) (hs1 : r.size = 729) (hs2 : q.size = 729) :
    Calls Try.prog 55 #[.string r, .string q] w fun e w' => e = .returned (.string (relS (fun i j => joinB (relT r) (relT q) i 27 j) 27)) ∧ Below w.heap.size w w' := by
  have hb0 : Below w.heap.size w ((w.alloc (.cells #[.string r] 9)).alloc (.cells #[.string q] 9)) := ((Below.refl _ w).alloc (Nat.le_refl _) _).alloc (by simp) _
  have HB0 := Lib.hid hb0
  have HT := Lib.hid (tells_comp r q ((w.alloc (.cells #[.string r] 9)).alloc (.cells #[.string q] 9)) w.heap.size (w.heap.size + 1) (by simp [World.cell?_alloc_at, World.cell?_alloc_past]) (by simp [World.cell?_alloc_at]) hs1 hs2)
  have HM := Lib.hid (makeRel 68 #[.pointer (some ⟨w.heap.size, 0, none⟩), .pointer (some ⟨w.heap.size + 1, 0, none⟩)] _ _ (fun _ _ => by simp [go_sem]) HT.out)
  obtain ⟨s, hs⟩ : ∃ s, relS (fun i j => joinB (relT r) (relT q) i 27 j) 27 = s := ⟨_, rfl⟩
  rw [hs] at HM ⊢
  clear hb0 hs HT
  go_enter Try.func55, Try.ntmps55
  go_wp2_with fail
  refine (HM.out).mono ?_
  rintro e w2 ⟨rfl, hb2⟩
  have HB := Lib.hid (HB0.out.trans (hb2.mono (by simp; omega)))
  clear hb2
  go_wp2_with fail
  go_ret
  exact ⟨rfl, HB.out⟩
def compV (r q : ByteArray) : Option ByteArray := if bitsB r 729 && bitsB q 729 then some (relS (fun i j => joinB (relT r) (relT q) i 27 j) 27) else none
set_option maxRecDepth 100000 in
theorem specComposeRel (r q : ByteArray) (w : World) (hr : r.size ≤ 1048576) (hq : q.size ≤ 1048576) : Calls Try.prog 24 #[.string r, .string q] w fun e w' => e = .returned (strV (compV r q)) ∧ Below w.heap.size w w' := by
  have hr' : r.size ≤ maxLen := by unfold maxLen; omega
  have hq' : q.size ≤ maxLen := by unfold maxLen; omega
  have HV := Lib.hid (fun w => specRelValid r w hr')
  have HW := Lib.hid (fun w => specRelValid q w hq')
  cases h1 : bitsB r 729 with
  | false =>
    have H := Lib.hid (show compV r q = none by simp [compV, h1])
    rw [h1] at HV
    clear h1
    go_enter Try.func24, Try.ntmps24
    go_wp2_with fail
    refine (HV.out _).mono ?_
    rintro e w1 ⟨rfl, rfl⟩
    go_wp2_with fail
    exact bodyPost_ret (v := .tuple #[.string ⟨#[]⟩, .bool false]) (by simp [results, Try.results24, go_sem]) rfl ⟨by rw [H.out]; rfl, Below.refl _ _⟩
  | true =>
    cases h2 : bitsB q 729 with
    | false =>
      have H := Lib.hid (show compV r q = none by simp [compV, h2])
      rw [h1] at HV
      rw [h2] at HW
      clear h1 h2
      go_enter Try.func24, Try.ntmps24
      go_wp2_with fail
      refine (HV.out _).mono ?_
      rintro e w1 ⟨rfl, rfl⟩
      go_wp2_with fail
      refine (HW.out _).mono ?_
      rintro e w1 ⟨rfl, rfl⟩
      go_wp2_with fail
      exact bodyPost_ret (v := .tuple #[.string ⟨#[]⟩, .bool false]) (by simp [results, Try.results24, go_sem]) rfl ⟨by rw [H.out]; rfl, Below.refl _ _⟩
    | true =>
      have H := Lib.hid (show compV r q = some _ by simp only [compV, h1, h2, Bool.and_self]; rfl)
      rw [h1] at HV
      rw [h2] at HW
      have HR := Lib.hid (fun w => specRead r w (by have := bits_size h1; omega))
      have HQ := Lib.hid (fun w => specRead q w (by have := bits_size h2; omega))
      have HT := Lib.hid (fun w => specCompose (relT r) (relT q) w)
      have HX := Lib.hid (fun w => specRelText (fun i j => joinB (relT r) (relT q) i 27 j) w)
      obtain ⟨a1, ha1⟩ : ∃ a, arrR (relT r) = a := ⟨_, rfl⟩
      obtain ⟨a2, ha2⟩ : ∃ a, arrR (relT q) = a := ⟨_, rfl⟩
      obtain ⟨a3, ha3⟩ : ∃ a, arrR (fun i j => joinB (relT r) (relT q) i 27 j) = a := ⟨_, rfl⟩
      obtain ⟨s, hs⟩ : ∃ s, relS (fun i j => joinB (relT r) (relT q) i 27 j) 27 = s := ⟨_, rfl⟩
      rw [ha1] at HR HT
      rw [ha2] at HQ HT
      rw [ha3] at HT HX
      rw [hs] at HX H
      clear h1 h2 ha1 ha2 ha3 hs
      go_enter Try.func24, Try.ntmps24
      go_wp2_with fail
      refine (HV.out _).mono ?_
      rintro e w1 ⟨rfl, rfl⟩
      go_wp2_with fail
      refine (HW.out _).mono ?_
      rintro e w1 ⟨rfl, rfl⟩
      go_wp2_with fail
      refine (HR.out _).mono ?_
      rintro e w2 ⟨rfl, hb2⟩
      go_wp2_with fail
      refine (HQ.out _).mono ?_
      rintro e w3 ⟨rfl, hb3⟩
      go_wp2_with fail
      refine (HT.out _).mono ?_
      rintro e w4 ⟨rfl, hb4⟩
      go_wp2_with fail
      refine (HX.out _).mono ?_
      rintro e w5 ⟨rfl, hb5⟩
      have hb6 := hb2.trans ((hb3.trans ((hb4.trans (hb5.mono hb4.size)).mono hb3.size)).mono hb2.size)
      go_wp2_with fail
      exact bodyPost_ret (v := .tuple #[.string s, .bool true]) (by simp [results, Try.results24, go_sem]) rfl ⟨by rw [H.out]; rfl, hb6⟩
set_option maxRecDepth 100000 in
theorem implComposeRel (r q : ByteArray) (w : World) (hr : r.size ≤ 1048576) (hq : q.size ≤ 1048576) : Calls Try.prog 25 #[.string r, .string q] w fun e w' => e = .returned (strV (compV r q)) ∧ Below w.heap.size w w' := by
  have hr' : r.size ≤ maxLen := by unfold maxLen; omega
  have hq' : q.size ≤ maxLen := by unfold maxLen; omega
  have HV := Lib.hid (fun w => implRelValid r w hr')
  have HW := Lib.hid (fun w => implRelValid q w hq')
  cases h1 : bitsB r 729 with
  | false =>
    have H := Lib.hid (show compV r q = none by simp [compV, h1])
    rw [h1] at HV
    clear h1
    go_enter Try.func25, Try.ntmps25
    go_wp2_with fail
    refine (HV.out _).mono ?_
    rintro e w1 ⟨rfl, rfl⟩
    go_wp2_with fail
    exact bodyPost_ret (v := .tuple #[.string ⟨#[]⟩, .bool false]) (by simp [results, Try.results25, go_sem]) rfl ⟨by rw [H.out]; rfl, Below.refl _ _⟩
  | true =>
    cases h2 : bitsB q 729 with
    | false =>
      have H := Lib.hid (show compV r q = none by simp [compV, h2])
      rw [h1] at HV
      rw [h2] at HW
      clear h1 h2
      go_enter Try.func25, Try.ntmps25
      go_wp2_with fail
      refine (HV.out _).mono ?_
      rintro e w1 ⟨rfl, rfl⟩
      go_wp2_with fail
      refine (HW.out _).mono ?_
      rintro e w1 ⟨rfl, rfl⟩
      go_wp2_with fail
      exact bodyPost_ret (v := .tuple #[.string ⟨#[]⟩, .bool false]) (by simp [results, Try.results25, go_sem]) rfl ⟨by rw [H.out]; rfl, Below.refl _ _⟩
    | true =>
      have H := Lib.hid (show compV r q = some _ by simp only [compV, h1, h2, Bool.and_self]; rfl)
      rw [h1] at HV
      rw [h2] at HW
      have HX := Lib.hid (fun w => implComposed r q w (by have := bits_size h1; omega) (by have := bits_size h2; omega))
      obtain ⟨s, hs⟩ : ∃ s, relS (fun i j => joinB (relT r) (relT q) i 27 j) 27 = s := ⟨_, rfl⟩
      rw [hs] at HX H
      clear h1 h2 hs
      go_enter Try.func25, Try.ntmps25
      go_wp2_with fail
      refine (HV.out _).mono ?_
      rintro e w1 ⟨rfl, rfl⟩
      go_wp2_with fail
      refine (HW.out _).mono ?_
      rintro e w1 ⟨rfl, rfl⟩
      go_wp2_with fail
      refine (HX.out _).mono ?_
      rintro e w5 ⟨rfl, hb5⟩
      go_wp2_with fail
      exact bodyPost_ret (v := .tuple #[.string s, .bool true]) (by simp [results, Try.results25, go_sem]) rfl ⟨by rw [H.out]; rfl, hb5⟩
set_option maxRecDepth 100000 in
set_option maxHeartbeats 2000000 in
theorem lawComposeRel (r q : ByteArray) (w : World) (hr : r.size ≤ maxLen) (hq : q.size ≤ maxLen) : Calls Try.prog 7 #[.string r, .string q] w fun e w' => e = .returned (.bool true) ∧ Below w.heap.size w w' := by
  by_cases hbr : r.size ≤ 1048576
  · have h1r : (r.size : Int) ≤ 1048576 := by omega
    by_cases hbq : q.size ≤ 1048576
    · have h1q : (q.size : Int) ≤ 1048576 := by omega
      have HA := Lib.hid (fun w => specComposeRel r q w hbr hbq)
      have HB := Lib.hid (fun w => implComposeRel r q w hbr hbq)
      cases h : compV r q with
      | none =>
        rw [h] at HA HB
        simp only [strV] at HA HB
        clear h
        go_enter Try.func7, Try.ntmps7
        go_wp2_with (first
          | (go_at_call 24; refine (HA.out _).mono ?_; rintro e w1 ⟨rfl, hw1⟩)
          | (go_at_call 25; refine (HB.out _).mono ?_; rintro e w2 ⟨rfl, hw2⟩))
        go_ret
        exact ⟨rfl, hw1.trans (hw2.mono hw1.size)⟩
      | some v =>
        rw [h] at HA HB
        simp only [strV] at HA HB
        clear h
        go_enter Try.func7, Try.ntmps7
        go_wp2_with (first
          | (go_at_call 24; refine (HA.out _).mono ?_; rintro e w1 ⟨rfl, hw1⟩)
          | (go_at_call 25; refine (HB.out _).mono ?_; rintro e w2 ⟨rfl, hw2⟩))
        go_ret
        exact ⟨rfl, hw1.trans (hw2.mono hw1.size)⟩
    · have h1q : (1048576 : Int) < (q.size : Int) := by omega
      go_enter Try.func7, Try.ntmps7
      go_wp2_with fail
      go_ret
      exact ⟨rfl, Below.refl _ _⟩
  · have h1r : (1048576 : Int) < (r.size : Int) := by omega
    go_enter Try.func7, Try.ntmps7
    go_wp2_with fail
    go_ret
    exact ⟨rfl, Below.refl _ _⟩
end Go.Proofs.Ytnamdobckkhceaa.Cp
