/- Contracts and law: the relation of agreement, as the reference has it; AgreeOn. -/
import Derived.Test.YtaimlfhbcgocnaaDoorAgree
import Derived.BigRegion
namespace Go.Proofs.YtaimlfhbcgocnaaDoor.Al
open Go.RowKit Go.Deep Go.Sort Go.Proofs.YtaimlfhbcgocnaaDoor.Pl Go.Proofs.YtaimlfhbcgocnaaDoor.Bi Go.Proofs.YtaimlfhbcgocnaaDoor.Fi Go.Proofs.YtaimlfhbcgocnaaDoor.Ed Go.Proofs.YtaimlfhbcgocnaaDoor.Ps Go.Proofs.YtaimlfhbcgocnaaDoor.Sw Go.Proofs.YtaimlfhbcgocnaaDoor.St Go.Proofs.YtaimlfhbcgocnaaDoor.En Go.Proofs.YtaimlfhbcgocnaaDoor.Vl Go.Proofs.YtaimlfhbcgocnaaDoor.Vs Go.Proofs.YtaimlfhbcgocnaaDoor.Va Go.Proofs.YtaimlfhbcgocnaaDoor.Ro Go.Proofs.YtaimlfhbcgocnaaDoor.Se Go.Proofs.YtaimlfhbcgocnaaDoor.Mk Go.Proofs.YtaimlfhbcgocnaaDoor.Rl Go.Proofs.YtaimlfhbcgocnaaDoor.Nu Go.Proofs.YtaimlfhbcgocnaaDoor.Tu Go.Proofs.YtaimlfhbcgocnaaDoor.Tl Go.Proofs.YtaimlfhbcgocnaaDoor.Ag
set_option linter.unusedVariables false

theorem specEnv6 (x y z a b c : Int) (w : World) : Calls Tryd.prog 26 #[.agg #[.int .i64 x, .int .i64 y, .int .i64 z], .agg #[.int .i64 a, .int .i64 b, .int .i64 c]] w fun e w' => e = .returned (env6 x y z a b c) ∧ Below w.heap.size w w' := by
  go_enter Tryd.func26, Tryd.ntmps26
  go_wp2
  exact bodyPost_ret (v := env6 x y z a b c) (by simp [results, Tryd.results26, go_sem]) rfl ⟨rfl, by repeat (first | exact Below.refl _ _ | refine Below.alloc ?_ (by simp <;> omega) _)⟩
/-! ### The test's text -/
theorem xyz_cut : (ByteArray.mk #[88, 89, 90]).extract 0 1 = bs [88] ∧ (ByteArray.mk #[88, 89, 90]).extract 1 2 = bs [89] ∧ (ByteArray.mk #[88, 89, 90]).extract 2 3 = bs [90] := by
  refine ⟨?_, ?_, ?_⟩ <;> (refine bs_of ?_; simp [ByteArray.data_extract])
set_option maxRecDepth 100000 in
set_option maxHeartbeats 2000000 in
theorem specAgreeText (s : ByteArray) (w : World) (hV : V s.data.toList = true) :
    Calls Tryd.prog 8 #[.string s] w fun e w' => e = .returned (.string (bs (agT s.data.toList))) ∧ ∃ m, w' = w.drewN m := by
  have hlen := V_len hV
  have hs : s.size ≤ 3 := by simpa using hlen
  have HLET := Lib.hid (fun (k : Nat) (hk : k < s.size) => V_let hV (List.mem_of_getElem? (byte_at s k hk)))
  clear hV hlen
  go_enter Tryd.func8, Tryd.ntmps8
  go_wp2_with fail
  go_loopw [3, 4] (fun out i wr => ∃ k m : Nat, k ≤ s.size ∧ i = .int .i64 ((k : Int) - 1) ∧ out = .string (bs (agT (s.data.toList.drop k))) ∧ wr = w.drewN m) (fun _ i _ => (intOf i + 1).toNat)
  case atStart => exact ⟨s.size, 0, Nat.le_refl _, rfl, by rw [List.drop_of_length_le (by simp)]; rfl, rfl⟩
  case round =>
    obtain ⟨k, m, hk, rfl, rfl, rfl⟩ := hrel
    by_cases h0 : k = 0
    · subst h0
      rw [show (((0 : Nat) : Int) - 1) = -1 by rfl]
      go_wp2_with fail
      go_ret
      exact ⟨rfl, _, rfl⟩
    · obtain ⟨j, rfl⟩ : ∃ j, k = j + 1 := ⟨k - 1, by omega⟩
      rw [show (((j + 1 : Nat) : Int) - 1) = (j : Int) by omega]
      have hlt : j < s.size := by omega
      have hlt' : (j : Int) + 1 ≤ (s.size : Int) := by omega
      have j0 : (0 : Int) ≤ (j : Int) := by omega
      have j2 : ((j : Int) + 1).toNat = j + 1 := by omega
      have hone := one_at s j hlt
      have hz1 : (s.extract j (j + 1)).size = 1 := by rw [hone]; rfl
      have hd := drop_at hlt
      have hz3 : (bs (agT (s.data.toList.drop (j + 1)))).size ≤ 200 := by rw [bs_size, agT_len, List.length_drop]; simp; omega
      rcases HLET.out j hlt with hc | hc | hc
      · have hv : varNo (s.extract j (j + 1)) = 0 := by rw [hone, hc]; exact var_x
        have HV := Lib.hid (fun w => specVar (s.extract j (j + 1)) w)
        rw [hv] at HV
        have hx := xyz_cut.1
        have hzx : ((ByteArray.mk #[88, 89, 90]).extract 0 1).size = 1 := by rw [hx]; rfl
        have HT := Lib.hid (show (ByteArray.mk #[38, 61] ++ s.extract j (j + 1) ++ (ByteArray.mk #[88, 89, 90]).extract 0 1) ++ bs (agT (s.data.toList.drop (j + 1))) = bs (agT (s.data.toList.drop j)) by
          rw [hd, hone, hc, hx, show ByteArray.mk #[38, 61] = bs [38, 61] from rfl, bs_app, bs_app, bs_app]; rfl)
        clear hone hd hc hv hx h0
        obtain ⟨T, hT⟩ : ∃ T, bs (agT (s.data.toList.drop (j + 1))) = T := ⟨_, rfl⟩
        obtain ⟨C, hC⟩ : ∃ C, s.extract j (j + 1) = C := ⟨_, rfl⟩
        rw [hT] at hz3 HT ⊢
        rw [hC] at HV hz1 HT
        clear hT
        go_wp2_with fail
        refine (HV.out _).mono ?_
        rintro e w1 ⟨rfl, rfl⟩
        go_wp2_with fail
        go_quiet (fail)
        go_wp2_with fail
        go_roundw
        case rel => exact ⟨j, _, by omega, rfl, by rw [HT.out], by first | rfl | exact World.drewN_drewN _ _ _⟩
        case measure => simp [intOf]
      · have hv : varNo (s.extract j (j + 1)) = 1 := by rw [hone, hc]; exact var_y
        have HV := Lib.hid (fun w => specVar (s.extract j (j + 1)) w)
        rw [hv] at HV
        have hx := xyz_cut.2.1
        have hzx : ((ByteArray.mk #[88, 89, 90]).extract 1 2).size = 1 := by rw [hx]; rfl
        have HT := Lib.hid (show (ByteArray.mk #[38, 61] ++ s.extract j (j + 1) ++ (ByteArray.mk #[88, 89, 90]).extract 1 2) ++ bs (agT (s.data.toList.drop (j + 1))) = bs (agT (s.data.toList.drop j)) by
          rw [hd, hone, hc, hx, show ByteArray.mk #[38, 61] = bs [38, 61] from rfl, bs_app, bs_app, bs_app]; rfl)
        clear hone hd hc hv hx h0
        obtain ⟨T, hT⟩ : ∃ T, bs (agT (s.data.toList.drop (j + 1))) = T := ⟨_, rfl⟩
        obtain ⟨C, hC⟩ : ∃ C, s.extract j (j + 1) = C := ⟨_, rfl⟩
        rw [hT] at hz3 HT ⊢
        rw [hC] at HV hz1 HT
        clear hT
        go_wp2_with fail
        refine (HV.out _).mono ?_
        rintro e w1 ⟨rfl, rfl⟩
        go_wp2_with fail
        go_quiet (fail)
        go_wp2_with fail
        go_roundw
        case rel => exact ⟨j, _, by omega, rfl, by rw [HT.out], by first | rfl | exact World.drewN_drewN _ _ _⟩
        case measure => simp [intOf]
      · have hv : varNo (s.extract j (j + 1)) = 2 := by rw [hone, hc]; exact var_z
        have HV := Lib.hid (fun w => specVar (s.extract j (j + 1)) w)
        rw [hv] at HV
        have hx := xyz_cut.2.2
        have hzx : ((ByteArray.mk #[88, 89, 90]).extract 2 3).size = 1 := by rw [hx]; rfl
        have HT := Lib.hid (show (ByteArray.mk #[38, 61] ++ s.extract j (j + 1) ++ (ByteArray.mk #[88, 89, 90]).extract 2 3) ++ bs (agT (s.data.toList.drop (j + 1))) = bs (agT (s.data.toList.drop j)) by
          rw [hd, hone, hc, hx, show ByteArray.mk #[38, 61] = bs [38, 61] from rfl, bs_app, bs_app, bs_app]; rfl)
        clear hone hd hc hv hx h0
        obtain ⟨T, hT⟩ : ∃ T, bs (agT (s.data.toList.drop (j + 1))) = T := ⟨_, rfl⟩
        obtain ⟨C, hC⟩ : ∃ C, s.extract j (j + 1) = C := ⟨_, rfl⟩
        rw [hT] at hz3 HT ⊢
        rw [hC] at HV hz1 HT
        clear hT
        go_wp2_with fail
        refine (HV.out _).mono ?_
        rintro e w1 ⟨rfl, rfl⟩
        go_wp2_with fail
        go_quiet (fail)
        go_wp2_with fail
        go_roundw
        case rel => exact ⟨j, _, by omega, rfl, by rw [HT.out], by first | rfl | exact World.drewN_drewN _ _ _⟩
        case measure => simp [intOf]
/-! ### The relation -/
/-- The relation, behind i rows and j columns of the next one. -/
def ofN (R : Nat → Nat → Bool) (i j x : Nat) : Nat := if x < i then msk (R x) 27 else if x = i then msk (R i) j else 0
theorem of_next (R : Nat → Nat → Bool) (i x : Nat) : ofN R i 27 x = ofN R (i + 1) 0 x := by
  unfold ofN
  by_cases h1 : x < i
  · rw [if_pos h1, if_pos (by omega)]
  · rw [if_neg h1]
    by_cases h2 : x = i
    · subst h2; rw [if_pos rfl, if_pos (by omega)]
    · rw [if_neg h2, if_neg (by omega)]
      by_cases h3 : x = i + 1
      · rw [if_pos h3]; rfl
      · rw [if_neg h3]
theorem of_here (R : Nat → Nat → Bool) (i j : Nat) : ofN R i j i = msk (R i) j := by simp [ofN]
theorem of_set {w : World} {b t : Nat} {R : Nat → Nat → Bool} {i j : Nat} (h : w.rowIs b t 27 (fun u => .int .i64 (ofN R i j u : Int))) {v : Value} (hv : v = .int .i64 (msk (R i) (j + 1) : Int)) :
    (w.setCell ⟨b, i, none⟩ v).rowIs b t 27 (fun u => .int .i64 (ofN R i (j + 1) u : Int)) := (h.set i v).congr fun u _ => by
  subst hv
  by_cases e : u = i
  · subst e; simp [of_here]
  · simp only [if_neg e]
    have : ofN R i j u = ofN R i (j + 1) u := by simp [ofN, e]
    rw [this]
theorem of_keep {w : World} {b t : Nat} {R : Nat → Nat → Bool} {i j : Nat} (h : w.rowIs b t 27 (fun u => .int .i64 (ofN R i j u : Int))) (hr : R i j = false) :
    w.rowIs b t 27 (fun u => .int .i64 (ofN R i (j + 1) u : Int)) := h.congr fun u _ => by
  have : ofN R i j u = ofN R i (j + 1) u := by
    by_cases e : u = i
    · subst e; rw [of_here, of_here]; simp [msk, hr]
    · simp [ofN, e]
  rw [this]
set_option maxRecDepth 100000 in
set_option maxHeartbeats 4000000 in
theorem ofAny (T : ByteArray) (R : Nat → Nat → Bool) (ex ey ez : Nat → Int) (w : World)
    (HA0 : Hid (∀ i : Nat, i < 27 → ∀ w, Calls Tryd.prog 27 #[.int .i64 (i : Int)] w fun e w' => e = .returned (.agg #[.int .i64 (ex i), .int .i64 (ey i), .int .i64 (ez i)]) ∧ Below w.heap.size w w'))
    (HH0 : Hid (∀ i j : Nat, i < 27 → j < 27 → ∀ w, Calls Tryd.prog 25 #[.string T, .int .i64 0, env6 (ex i) (ey i) (ez i) (ex j) (ey j) (ez j)] w fun e w' => e = .returned (.tuple #[.bool (R i j), .int .i64 (T.size : Int)]) ∧ Below w.heap.size w w')) :
    Calls Tryd.prog 16 #[.string T] w fun e w' => e = .returned (arr fun i => msk (R i) 27) ∧ Below w.heap.size w w' := by
  have hth0 : ((w.alloc (.cells zero27 32)).alloc (.cells zero27 32)).there (w.heap.size + 1) 0 27 := row_there (rows_two w 32).1
  have HLA := Lib.hid (rows_laid w 32)
  have hth := Lib.hid hth0
  have hone := Lib.hid zero_one
  clear hth0
  go_enter Tryd.func16, Tryd.ntmps16
  go_wp2_with (refine wpList_store_mid rfl 32 (.tmp 3) (.tmp 8) rfl (w.heap.size + 1) 0 zero27 rfl rfl hth.out info39 hone.out ?_)
  refine wp_world (fun W => W.rowIs (w.heap.size + 1) 32 27 (fun _ => .int .i64 0) ∧ (∃ f, W.rowIs w.heap.size 32 27 f) ∧ Below w.heap.size w W) HLA.out ?_
  rintro W0 ⟨r0, r1, r3⟩
  go_loopw [4, 5] (fun i u wr => ∃ k : Nat, k ≤ 27 ∧ i = .int .i64 k ∧ wr.rowIs (w.heap.size + 1) 32 27 (fun u => .int .i64 (ofN R k 0 u : Int)) ∧ (∃ f, wr.rowIs w.heap.size 32 27 f) ∧ Below w.heap.size w wr) (fun i _ _ => 27 - (intOf i).toNat)
  case atStart => exact ⟨0, Nat.zero_le _, rfl, r0.congr fun i _ => by
    have : ofN R 0 0 i = 0 := by unfold ofN; rw [if_neg (by omega)]; split <;> rfl
    rw [this]; rfl, r1, r3⟩
  case round =>
    obtain ⟨k, hk, rfl, hrow, hres, hb⟩ := hrel
    by_cases hlt : k < 27
    · have hd : decide ((k : Int) < 27) = true := by simp; omega
      go_wp2_with fail
      go_loopw [5] (fun u wr => ∃ j : Nat, j ≤ 27 ∧ u = .int .i64 j ∧ wr.rowIs (w.heap.size + 1) 32 27 (fun u => .int .i64 (ofN R k j u : Int)) ∧ (∃ f, wr.rowIs w.heap.size 32 27 f) ∧ Below w.heap.size w wr) (fun u _ => 27 - (intOf u).toNat)
      case atStart => exact ⟨0, Nat.zero_le _, rfl, hrow, hres, hb⟩
      case round =>
        clear hrow hres hb
        obtain ⟨j, hj, rfl, hrow, hres, hb⟩ := hrel
        by_cases hlj : j < 27
        · have hdj : decide ((j : Int) < 27) = true := by simp; omega
          have HAI := Lib.hid (HA0.out k hlt)
          have HAJ := Lib.hid (HA0.out j hlj)
          have HE := Lib.hid (fun w => specEnv6 (ex k) (ey k) (ez k) (ex j) (ey j) (ez j) w)
          have HH := Lib.hid (HH0.out k j hlt hlj)
          have HROW := Lib.hid hrow
          have HRES := Lib.hid hres
          have HB := Lib.hid hb
          generalize ex k = x1 at HAI HE HH
          generalize ey k = x2 at HAI HE HH
          generalize ez k = x3 at HAI HE HH
          generalize ex j = y1 at HAJ HE HH
          generalize ey j = y2 at HAJ HE HH
          generalize ez j = y3 at HAJ HE HH
          clear hrow hres hb
          cases hR : R k j with
          | true =>
            rw [hR] at HH
            go_wp2_with fail
            refine (HAI.out _).mono ?_
            rintro e w1 ⟨rfl, hb1⟩
            go_wp2_with fail
            refine (HAJ.out _).mono ?_
            rintro e w2 ⟨rfl, hb2⟩
            go_wp2_with fail
            refine (HE.out _).mono ?_
            rintro e w3 ⟨rfl, hb3⟩
            go_wp2_with fail
            refine (HH.out _).mono ?_
            rintro e w4 ⟨rfl, hb4⟩
            have hx : Below wr.heap.size wr w4 := grew (grew (grew hb1 hb2) hb3) hb4
            have hrow4 := HROW.out.of_block (hx.block _ HROW.out.lt)
            obtain ⟨f, hf⟩ := HRES.out
            have hres4 := hf.of_block (hx.block _ hf.lt)
            have hbb4 := HB.out.trans (hx.mono HB.out.size)
            have hc2 := hrow4.cell hlt
            rw [of_here] at hc2
            have hfz := hrow4.frozen k
            have hnew := msk_step (f := R k) hlj
            have HV := Lib.hid (show ((msk (R k) j ||| 2 ^ j : Nat) : Int) = (msk (R k) (j + 1) : Int) by simp [msk, hR])
            rw [HV.out] at hnew
            have HR := Lib.hid (of_set hrow4 (v := .int .i64 (msk (R k) (j + 1) : Int)) rfl)
            have HF := Lib.hid (show ∃ f, (w4.setCell ⟨w.heap.size + 1, k, none⟩ (.int .i64 (msk (R k) (j + 1) : Int))).rowIs w.heap.size 32 27 f from ⟨f, hres4.setOther (by simp) _⟩)
            have HB4 := Lib.hid (hbb4.setCell (p := ⟨w.heap.size + 1, k, none⟩) (show w.heap.size ≤ w.heap.size + 1 by omega) (.int .i64 (msk (R k) (j + 1) : Int)))
            obtain ⟨m0, hm0⟩ : ∃ m, msk (R k) j = m := ⟨_, rfl⟩
            obtain ⟨m1, hm1⟩ : ∃ m, msk (R k) (j + 1) = m := ⟨_, rfl⟩
            rw [hm0] at hc2 hnew
            rw [hm1] at hnew HR HF HB4
            clear hrow4 hres4 hf hbb4 hx hb1 hb2 hb3 hb4 hR HV hm0 hm1
            go_wp2_with fail
            go_roundw
            case rel => exact ⟨j + 1, by omega, by go_num, HR.out, HF.out, by first | exact HB4.out | exact HB4.out.drew⟩
            case measure => simp [intOf]; omega
          | false =>
            rw [hR] at HH
            go_wp2_with fail
            refine (HAI.out _).mono ?_
            rintro e w1 ⟨rfl, hb1⟩
            go_wp2_with fail
            refine (HAJ.out _).mono ?_
            rintro e w2 ⟨rfl, hb2⟩
            go_wp2_with fail
            refine (HE.out _).mono ?_
            rintro e w3 ⟨rfl, hb3⟩
            go_wp2_with fail
            refine (HH.out _).mono ?_
            rintro e w4 ⟨rfl, hb4⟩
            have hx : Below wr.heap.size wr w4 := grew (grew (grew hb1 hb2) hb3) hb4
            have hrow4 := HROW.out.of_block (hx.block _ HROW.out.lt)
            obtain ⟨f, hf⟩ := HRES.out
            have hres4 := hf.of_block (hx.block _ hf.lt)
            have hbb4 := HB.out.trans (hx.mono HB.out.size)
            have HR := Lib.hid (of_keep hrow4 hR)
            have HF := Lib.hid (show ∃ f, w4.rowIs w.heap.size 32 27 f from ⟨f, hres4⟩)
            have HB4 := Lib.hid hbb4
            clear hrow4 hres4 hf hbb4 hx hb1 hb2 hb3 hb4 hR
            go_wp2_with fail
            go_roundw
            case rel => exact ⟨j + 1, by omega, by go_num, HR.out, HF.out, HB4.out⟩
            case measure => simp [intOf]; omega
        · obtain rfl : j = 27 := by omega
          have HR := Lib.hid (hrow.congr fun u hu => by rw [of_next R k u])
          have HF := Lib.hid hres
          have HB := Lib.hid hb
          clear hrow hres hb
          go_wp2_with fail
          go_roundw
          case rel => exact ⟨k + 1, by omega, by go_num, HR.out, HF.out, HB.out⟩
          case measure => simp [intOf]; omega
    · obtain rfl : k = 27 := by omega
      obtain ⟨f, hf⟩ := hres
      have hrow' : wr.rowIs (w.heap.size + 1) 32 27 (fun u => .int .i64 ((msk (R u) 27 : Nat) : Int)) := hrow.congr fun u hu => by simp only [ofN, if_pos hu]
      obtain ⟨g2, hg2⟩ : ∃ g2 : Nat → Nat, (fun u => msk (R u) 27) = g2 := ⟨_, rfl⟩
      have hrow2 : wr.rowIs (w.heap.size + 1) 32 27 (fun u => .int .i64 ((g2 u : Nat) : Int)) := by rw [← hg2]; exact hrow'
      obtain ⟨cs, hcs⟩ : ∃ cs, cellsOf g2 = cs := ⟨_, rfl⟩
      have hlen : cs.length = 27 := by rw [← hcs, cells_len]
      have hra := Lib.hid (row_range hrow2)
      have hth := Lib.hid (show wr.there w.heap.size 0 cs.toArray.size by simpa [hlen] using row_there hf)
      have hin := Lib.hid (show (Tryd.prog.info? 32).map (·.size) = some cs.length by rw [hlen]; exact info39)
      have hin2 := Lib.hid (show (Tryd.prog.info? 32).map (·.size) = some cs.toArray.size by simpa [hlen] using info39)
      have hre := run_loadVar_mid (P := Tryd.prog) (wr.setCells w.heap.size 0 (cellsOf g2)) w.heap.size 0 32 _ _ (set_range wr w.heap.size g2 (row_there hf)) Tryd.underlying32 rfl (by rw [cells_len]; exact info39)
      have hone := Lib.hid (all_oneCell_toArray (cells_one g2))
      have HAA := Lib.hid (show Value.agg cs.toArray = .agg (cellsOf fun u => msk (R u) 27).toArray by rw [hg2, hcs])
      rw [hcs] at hra hone hre
      have HRE := Lib.hid hre
      have HB := Lib.hid (below_cells (Nat.le_refl _) cs 0 wr hb)
      clear hf hrow hrow' hrow2 hb hcs hre hg2
      go_wp2_with (first
        | (refine wpList_load_mid rfl 32 (.tmp 3) rfl (w.heap.size + 1) 0 rfl cs _ hra.out Tryd.underlying32 rfl hin.out ?_)
        | (refine wpList_store_mid rfl 32 (.tmp 2) (.tmp 37) rfl w.heap.size 0 cs.toArray rfl rfl hth.out hin2.out hone.out ?_))
      refine bodyPost_ret (v := .agg cs.toArray) ?_ rfl ⟨by rw [HAA.out]; rfl, HB.out⟩
      exact results_cell Tryd.results16 _ ⟨w.heap.size, 0, none⟩ rfl HRE.out
theorem specVarsValid (s : ByteArray) (w : World) (hs : s.size ≤ 1048576) : Calls Tryd.prog 6 #[.string s] w fun e w' => e = .returned (.bool (V s.data.toList)) ∧ w = w' := by
  have HV := Lib.hid (fun w => specVars s false w hs)
  have he : ((bs (varsIn false s.data.toList)).toList == s.toList) = V s.data.toList := by
    rw [list_of, list_of, bs_list]; exact vars_eq _
  obtain ⟨x, hx⟩ : ∃ x, bs (varsIn false s.data.toList) = x := ⟨_, rfl⟩
  rw [hx] at HV he
  cases h : V s.data.toList with
  | false =>
    rw [h] at he
    clear h hx
    go_enter Tryd.func6, Tryd.ntmps6
    go_wp2_with fail
    refine (HV.out _).mono ?_
    rintro e w1 ⟨rfl, rfl⟩
    go_wp2_with fail
    go_ret
    exact ⟨rfl, rfl⟩
  | true =>
    rw [h] at he
    clear h hx
    go_enter Tryd.func6, Tryd.ntmps6
    go_wp2_with fail
    refine (HV.out _).mono ?_
    rintro e w1 ⟨rfl, rfl⟩
    go_wp2_with fail
    go_ret
    exact ⟨rfl, rfl⟩
theorem specOf (l : List UInt8) (w : World) (hV : V l = true) : Calls Tryd.prog 16 #[.string (bs (agT l))] w fun e w' => e = .returned (arrR (agB l)) ∧ Below w.heap.size w w' := by
  have hz : (bs (agT l)).size ≤ 13 := by rw [bs_size, agT_len]; have := V_len hV; omega
  refine ofAny (bs (agT l)) (agB l) (fun i => sx (i : Int)) (fun i => sy (i : Int)) (fun i => sz (i : Int)) w (Lib.hid fun i hi w => ?_) (Lib.hid fun i j hi hj w => ?_)
  · exact (specAt (i : Int) w (by omega) (by omega)).mono fun e w' h => ⟨h.1, by rw [← h.2]; exact (Below.refl _ _).alloc (Nat.le_refl _) _⟩
  · have h := holdsAll (bs (agT l)) (by omega) i j hi hj l 0 w (fun c hc => V_let hV hc) (by rw [bs_list]; rfl)
    rw [show (((0 : Nat) : Int) + ((agT l).length : Int)) = ((bs (agT l)).size : Int) by rw [bs_size]; omega] at h
    exact h
set_option maxRecDepth 100000 in
theorem specRelOf (l : List UInt8) (w : World) (hV : V l = true) : Calls Tryd.prog 7 #[.string (bs (agT l))] w fun e w' => e = .returned (strV (some (relS (agB l) 27))) ∧ Below w.heap.size w w' := by
  have hz : (bs (agT l)).size ≤ 13 := by rw [bs_size, agT_len]; have := V_len hV; omega
  have HV := Lib.hid (fun w => specWideValid (bs (agT l)) w (by omega))
  rw [agT_ok hV] at HV
  have HO := Lib.hid (fun w => specOf l w hV)
  have HX := Lib.hid (fun w => specRelText (agB l) w)
  obtain ⟨a1, ha1⟩ : ∃ a, arrR (agB l) = a := ⟨_, rfl⟩
  obtain ⟨t, ht⟩ : ∃ t, relS (agB l) 27 = t := ⟨_, rfl⟩
  obtain ⟨T, hT⟩ : ∃ T, bs (agT l) = T := ⟨_, rfl⟩
  rw [ha1] at HO HX
  rw [ht] at HX ⊢
  rw [hT] at HV HO ⊢
  clear ha1 ht hT hz hV
  go_enter Tryd.func7, Tryd.ntmps7
  go_wp2_with fail
  refine (HV.out _).mono ?_
  rintro e w1 ⟨rfl, hb1⟩
  go_wp2_with fail
  refine (HO.out _).mono ?_
  rintro e w2 ⟨rfl, hb2⟩
  go_wp2_with fail
  refine (HX.out _).mono ?_
  rintro e w3 ⟨rfl, hb3⟩
  have HB := Lib.hid (grew (grew hb1 hb2) hb3)
  go_wp2_with fail
  exact bodyPost_ret (v := .tuple #[.string t, .bool true]) (by simp [results, Tryd.results7, go_sem]) rfl ⟨rfl, HB.out⟩
set_option maxRecDepth 100000 in
theorem specAgreeOn (s : ByteArray) (w : World) (hs : s.size ≤ 1048576) : Calls Tryd.prog 4 #[.string s] w fun e w' => e = .returned (strV (agV s)) ∧ Below w.heap.size w w' := by
  have HV := Lib.hid (fun w => specVarsValid s w hs)
  cases h : V s.data.toList with
  | false =>
    have H := Lib.hid (show agV s = none by simp [agV, h])
    rw [h] at HV
    clear h
    go_enter Tryd.func4, Tryd.ntmps4
    go_wp2_with fail
    refine (HV.out _).mono ?_
    rintro e w1 ⟨rfl, rfl⟩
    go_wp2_with fail
    exact bodyPost_ret (v := .tuple #[.string ⟨#[]⟩, .bool false]) (by simp [results, Tryd.results4, go_sem]) rfl ⟨by rw [H.out]; rfl, Below.refl _ _⟩
  | true =>
    have H := Lib.hid (show agV s = some _ by simp only [agV, h]; rfl)
    rw [h] at HV
    have HT := Lib.hid (fun w => specAgreeText s w h)
    have HO := Lib.hid (fun w => specRelOf s.data.toList w h)
    simp only [strV] at HO
    obtain ⟨t, ht⟩ : ∃ t, relS (agB s.data.toList) 27 = t := ⟨_, rfl⟩
    obtain ⟨T, hT⟩ : ∃ T, bs (agT s.data.toList) = T := ⟨_, rfl⟩
    rw [ht] at HO H
    rw [hT] at HT HO
    clear h ht hT
    go_enter Tryd.func4, Tryd.ntmps4
    go_wp2_with fail
    refine (HV.out _).mono ?_
    rintro e w1 ⟨rfl, rfl⟩
    go_wp2_with fail
    refine (HT.out _).mono ?_
    rintro e w1 ⟨rfl, m, rfl⟩
    go_wp2_with fail
    refine (HO.out _).mono ?_
    rintro e w2 ⟨rfl, hb2⟩
    have HB := Lib.hid (grew (below_drewN (Below.refl _ _) m) hb2)
    go_wp2_with fail
    exact bodyPost_ret (v := .tuple #[.string t, .bool true]) (by simp [results, Tryd.results4, go_sem]) rfl ⟨by rw [H.out]; rfl, HB.out⟩
set_option maxRecDepth 100000 in
set_option maxHeartbeats 2000000 in
theorem lawAgreeOn (s : ByteArray) (w : World) (hr : s.size ≤ maxLen) (hst : strideAt w) : Calls Tryd.prog 3 #[.string s] w fun e w' => e = .returned (.bool true) ∧ Below w.heap.size w w' := by
  by_cases hbr : s.size ≤ 1048576
  · have h1r : (s.size : Int) ≤ 1048576 := by omega
    have HA := Lib.hid (fun w => specAgreeOn s w hbr)
    have HB := Lib.hid (fun w hst => implAgreeOn s w hbr hst)
    cases h : agV s with
    | none =>
      rw [h] at HA HB
      simp only [strV] at HA HB
      clear h
      go_enter Tryd.func3, Tryd.ntmps3
      go_wp2_with fail
      refine (HA.out _).mono ?_
      rintro e w1 ⟨rfl, hw1⟩
      have hst1 := stride_below hst hw1
      have HST := Lib.hid hst1
      clear hst1
      go_wp2_with fail
      refine (HB.out _ HST.out).mono ?_
      rintro e w2 ⟨rfl, hw2⟩
      go_wp2_with fail
      go_ret
      exact ⟨rfl, hw1.trans (hw2.mono hw1.size)⟩
    | some v =>
      rw [h] at HA HB
      simp only [strV] at HA HB
      clear h
      go_enter Tryd.func3, Tryd.ntmps3
      go_wp2_with fail
      refine (HA.out _).mono ?_
      rintro e w1 ⟨rfl, hw1⟩
      have hst1 := stride_below hst hw1
      have HST := Lib.hid hst1
      clear hst1
      go_wp2_with fail
      refine (HB.out _ HST.out).mono ?_
      rintro e w2 ⟨rfl, hw2⟩
      go_wp2_with fail
      go_ret
      exact ⟨rfl, hw1.trans (hw2.mono hw1.size)⟩
  · have h1r : (1048576 : Int) < (s.size : Int) := by omega
    clear hst
    go_enter Tryd.func3, Tryd.ntmps3
    go_wp2_with fail
    go_ret
    exact ⟨rfl, Below.refl _ _⟩
end Go.Proofs.YtaimlfhbcgocnaaDoor.Al
