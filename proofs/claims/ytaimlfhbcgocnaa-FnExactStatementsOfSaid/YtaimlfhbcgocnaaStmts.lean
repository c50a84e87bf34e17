/- Contracts and law: StatementsOf. -/
import Derived.Test.YtaimlfhbcgocnaaPartsv
import Derived.Test.YtaimlfhbcgocnaaSeq
namespace Go.Proofs.Ytaimlfhbcgocnaa.Stt
open Go.RowKit Go.Deep Go.Sort Go.Proofs.Ytaimlfhbcgocnaa.Pl Go.Proofs.Ytaimlfhbcgocnaa.Bi Go.Proofs.Ytaimlfhbcgocnaa.Fi Go.Proofs.Ytaimlfhbcgocnaa.Ed Go.Proofs.Ytaimlfhbcgocnaa.Ps Go.Proofs.Ytaimlfhbcgocnaa.Sw Go.Proofs.Ytaimlfhbcgocnaa.Hd Go.Proofs.Ytaimlfhbcgocnaa.Pp Go.Proofs.Ytaimlfhbcgocnaa.Ea Go.Proofs.Ytaimlfhbcgocnaa.Sz Go.Proofs.Ytaimlfhbcgocnaa.Hs Go.Proofs.Ytaimlfhbcgocnaa.Sr Go.Proofs.Ytaimlfhbcgocnaa.Pv Go.Proofs.Ytaimlfhbcgocnaa.Sq
set_option linter.unusedVariables false

/-- What the function answers. -/
def stV (s : ByteArray) : List ByteArray := progV false 200 stT [] s
theorem stV_len (s : ByteArray) : (stV s).length ≤ 1000 := by
  unfold stV progV
  split
  · rename_i h
    obtain ⟨hl, b, k, hi, rfl⟩ := okS_is h
    have := P_is hi []
    rw [List.append_nil] at this
    rw [bs_list, this]
    simp only
    have h1 := st_len b k
    rw [bs_size, tx_size] at hl
    omega
  · simp
theorem specStatementsOf (s : ByteArray) (w : World) (hs : s.size ≤ 1048576) : Calls Try.prog 13 #[.string s] w fun e w' => ∃ v, e = .returned v ∧ strs w.heap.size w' v (stV s) ∧ Below w.heap.size w w' := by
  have hv := Lib.hid (fun w => specProgramValid s w hs)
  cases h : okS false 2 200 s with
  | false =>
    have H := Lib.hid (show stV s = [] from progV_no _ _ h)
    rw [h] at hv
    clear h
    go_enter Try.func13, Try.ntmps13
    go_wp2_with fail
    refine (hv.out _).mono ?_
    rintro e w1 ⟨rfl, hb⟩
    go_wp2_with fail
    go_ret
    exact ⟨_, rfl, by rw [H.out]; exact strs_empty w1 _ hb.size, hb.alloc hb.size _⟩
  | true =>
    obtain ⟨hl, b, k, hi, rfl⟩ := okS_is h
    have H := Lib.hid (show stV (bs (tx b k)) = _ from progV_is _ _ hi h)
    rw [h] at hv
    rw [bs_size] at hl
    have hsz := tx_size b k
    have HC := Lib.hid (fun w => specStatements _ b k w (Nat.lt_succ_self _) hi (by omega))
    clear h hl hi hsz
    go_enter Try.func13, Try.ntmps13
    go_wp2_with fail
    refine (hv.out _).mono ?_
    rintro e w1 ⟨rfl, hb⟩
    go_wp2_with fail
    refine (HC.out _).mono ?_
    rintro e w2 ⟨v, rfl, hst, hb2⟩
    obtain ⟨g, cp, rfl, _⟩ := strs_form hst
    have HST := Lib.hid (show strs w.heap.size w2 _ _ from ⟨owns_mono hst.1 hb.size, hst.2⟩)
    clear hst
    go_wp2_with fail
    go_ret
    exact ⟨_, rfl, by rw [H.out]; exact HST.out, grew hb hb2⟩
set_option maxRecDepth 100000 in
set_option maxHeartbeats 4000000 in
theorem implStatementsOf (s : ByteArray) (w : World) (hs : s.size ≤ 1048576) : Calls Try.prog 14 #[.string s] w fun e w' => ∃ v, e = .returned v ∧ strs w.heap.size w' v (stV s) ∧ Below w.heap.size w w' := by
  obtain ⟨i0, hi0, hz0, hz1, hz2⟩ := info_parts infoStr
  have hp := Lib.hid (fun w => implParseProg s w hs)
  have s0 := strs_empty w w.heap.size (Nat.le_refl _)
  have hb0 : Below w.heap.size w (w.alloc (.cells #[] 9)) := (Below.refl _ w).alloc (Nat.le_refl _) _
  have hbl : (w.alloc (.cells #[] 9)).heap[w.heap.size]? = some (.cells #[] 9) := blk_alloc_new _ _
  have hsz : (w.alloc (.cells #[] 9)).heap.size = w.heap.size + 1 := by simp
  obtain ⟨W0, hW0⟩ : ∃ W, w.alloc (.cells #[] 9) = W := ⟨_, rfl⟩
  have HW0 := Lib.hid hW0
  rw [hW0] at s0 hb0 hbl hsz
  clear hW0
  go_enter Try.func14, Try.ntmps14
  go_wp2_with fail
  rw [HW0.out]
  refine (hp.out _).mono ?_
  rintro e w1 (⟨h, rfl, hb⟩ | ⟨b, k, p, h, hi, rfl, rfl, hT, hb⟩)
  · have H := Lib.hid (show stV s = [] from progV_no _ _ h)
    have S1 := Lib.hid (strs_below s0 hb)
    have HB := Lib.hid (grew hb0 hb)
    clear h s0 hb hb0 hbl hp
    go_wp2_with fail
    go_ret
    exact ⟨_, rfl, by rw [H.out]; exact S1.out, HB.out⟩
  · have H := Lib.hid (show stV (bs (tx b k)) = _ from progV_is _ _ hi h)
    have hl := (okS_is h).1
    rw [bs_size, tx_size] at hl
    have hblk1 : w1.heap[w.heap.size]? = some (.cells #[] 9) := by rw [hb.block _ (by omega)]; exact hbl
    have hT' := inW_imp (S' := fun x => x < w1.heap.size ∧ x ≠ w.heap.size) (fun x _ ⟨o, v, hc⟩ => ⟨lt_of_cell hc, fun e => by
      subst e
      unfold World.cell? at hc
      rw [hblk1] at hc
      simp at hc⟩) hT
    have HPa := Lib.hid (implSequence _ _ b k p w1 (Nat.lt_succ_self _) hi (by omega) hT' (fun x hx => hx.1))
    have S1 := Lib.hid (strs_below s0 hb)
    have HB := Lib.hid (grew hb0 hb)
    have hlt1 : w.heap.size < w1.heap.size := by have := hb.size; omega
    have hpl := st_len b k
    have HLEN := Lib.hid (show (stT b k).length = (sq b k).members.length by simp [stT])
    clear h s0 hb hb0 hbl hp hT hT' hi hblk1
    go_wp2_with fail
    refine (HPa.out).mono ?_
    rintro e w2 ⟨v, qs, rfl, hv, htt, hb2⟩
    have hql := inW_len htt
    obtain ⟨_, hget⟩ := inW_get htt
    obtain ⟨g0, cp0, rfl, hg0, hg1, hc0, hx0⟩ := prow_form hv
    have HX := Lib.hid (fun i x (hx : (sq b k).members[i]? = some x) => by
      obtain ⟨q, h1, h2⟩ := hget i x hx
      exact (⟨q, hx0 i q h1, h2.1, h2.2.2.1⟩ : ∃ q, w2.cell? ⟨g0, i, none⟩ = some (.pointer (some ⟨q, 0, none⟩)) ∧ (q < w1.heap.size ∧ q ≠ w.heap.size) ∧ w2.cell? ⟨q, 2, none⟩ = some (.string (bs (tx x.1 x.2)))))
    have S2 := Lib.hid (strs_below S1.out hb2)
    have HB2 := Lib.hid (HB.out.trans (hb2.mono HB.out.size))
    have hs12 := hb2.size
    obtain ⟨m, hm⟩ : ∃ m, qs.length = m := ⟨_, rfl⟩
    rw [hm] at hc0 hql ⊢
    rw [← mem_len] at hql
    have hml : m ≤ 1000 := by rw [HLEN.out] at hpl; omega
    have HM := Lib.hid hql.symm
    clear hv htt hb2 hget hx0 hm hql hpl S1 HB
    go_wp2_with fail
    go_loopw [3, 6, 16] (fun out u i wr => ∃ (j g c : Nat), j ≤ m ∧ i = .int .i64 j ∧ out = .slice (some ⟨g, 0, none⟩) j c ∧ Hid (strs w.heap.size wr (.slice (some ⟨g, 0, none⟩) j c) (((sq b k).members.take j).map fun x => bs (tx x.1 x.2))) ∧
      Hid (Below w.heap.size w wr) ∧ (g = w.heap.size ∨ w2.heap.size ≤ g) ∧ w2.heap.size ≤ wr.heap.size ∧ Hid (∀ x, x < w2.heap.size ∧ x ≠ w.heap.size → wr.heap[x]? = w2.heap[x]?)) (fun _ _ i _ => m - (intOf i).toNat)
    case atStart => exact ⟨0, w.heap.size, 0, Nat.zero_le _, rfl, rfl, S2, HB2, .inl rfl, Nat.le_refl _, Lib.hid fun _ _ => rfl⟩
    case round =>
      obtain ⟨j, g, c, hj, rfl, rfl, hown, hb, hgg, hsz1, hst⟩ := hrel
      by_cases hlt : j < m
      · obtain ⟨x, hxj⟩ : ∃ x, (sq b k).members[j]? = some x := ⟨_, List.getElem?_eq_getElem (by rw [HM.out]; exact hlt)⟩
        obtain ⟨q, hq1, hqs, hq2⟩ := HX.out j x hxj
        have hcell : wr.cell? ⟨g0, j, none⟩ = some (.pointer (some ⟨q, 0, none⟩)) := by rw [cell_same (hst.out g0 ⟨hg1, by omega⟩)]; exact hq1
        have htx : wr.cell? ⟨q, 2, none⟩ = some (.string (bs (tx x.1 x.2))) := by rw [cell_same (hst.out q ⟨by omega, hqs.2⟩)]; exact hq2
        have HT := Lib.hid (show ((sq b k).members.take (j + 1)).map (fun x => bs (tx x.1 x.2)) = ((sq b k).members.take j).map (fun x => bs (tx x.1 x.2)) ++ [bs (tx x.1 x.2)] by rw [List.take_add_one, hxj]; simp)
        have HLN := Lib.hid (show (((sq b k).members.take j).map fun x => bs (tx x.1 x.2)).length = j by rw [List.length_map, List.length_take, HM.out]; omega)
        obtain ⟨y, hy⟩ : ∃ y, bs (tx x.1 x.2) = y := ⟨_, rfl⟩
        obtain ⟨ys, hys⟩ : ∃ ys, ((sq b k).members.take j).map (fun x => bs (tx x.1 x.2)) = ys := ⟨_, rfl⟩
        rw [hy] at HT htx
        rw [hys] at hown HT HLN
        have HO := Lib.hid (strs_alloc hown.out (.cells #[.string y] 9))
        have HO4 := Lib.hid (show (wr.alloc (.cells #[.string y] 9)).ownsRow w.heap.size 9 1 (.slice (some ⟨g, 0, none⟩) j c) (ys.map Value.string).length (ys.map Value.string) by rw [List.length_map]; exact HO.out.1)
        have HBA := Lib.hid (hb.out.alloc hb.out.size (.cells #[.string y] 9))
        have hza : (wr.alloc (.cells #[.string y] 9)).heap.size = wr.heap.size + 1 := by simp
        have HSA := Lib.hid (fun x (hx : x < wr.heap.size) => ((Below.refl _ wr).alloc (Nat.le_refl _) (.cells #[.string y] 9)).block x hx)
        clear hq1 hq2 hqs hxj hy hys hown hb
        go_wp2_with (at_builtin; refine wpList_append_more rfl (.tmp 20) (.tmp 25) 33 rfl w.heap.size 9 i0 (.string ⟨#[]⟩) 16 Try.underlying33 hi0 hz0 hz1 hz2 (by decide) rfl (.slice (some ⟨g, 0, none⟩) j c) (ys.map Value.string) rfl HO4.out ⟨wr.heap.size, 0, none⟩ 1 1 ([y].map Value.string) rfl rfl (new_one _ _ _ _ rfl) (strs_one _) (by decide) (by rw [List.length_map, HLN.out]; omega) (Nat.le_trans HBA.out.size (Nat.le_refl _)) ?_; intro v' w4 ho4 hg4 hn4; obtain ⟨⟨g4, c4, rfl, hgg4⟩, O4, B4, L4⟩ := app_more HO.out ho4 hg4 hn4)
        go_roundw
        case rel => exact ⟨j + 1, g4, c4, by omega, by go_num, by rw [HLN.out], Lib.hid (by rw [List.length_append, HLN.out] at O4; rw [HT.out]; exact O4), Lib.hid (B4 _ _ (Nat.le_refl _) HBA.out HBA.out.size), by omega, by omega, Lib.hid fun x hx => (hg4.block x (by omega) (fun e => by
          have e' : x = g := by simpa [Value.ownBlock] using e
          omega)).trans ((HSA.out x (by omega)).trans (hst.out x hx))⟩
        case measure => simp [intOf]; omega
      · obtain rfl : j = m := by omega
        have HE := Lib.hid (show ((sq b k).members.take j).map (fun x => bs (tx x.1 x.2)) = stT b k by rw [List.take_of_length_le (by rw [HM.out]; exact Nat.le_refl _)]; rfl)
        go_wp2_with fail
        go_ret
        exact ⟨_, rfl, by rw [H.out, ← HE.out]; exact hown.out, hb.out⟩
set_option maxRecDepth 100000 in
set_option maxHeartbeats 4000000 in
theorem lawStatementsOf (s : ByteArray) (w : World) (hs : s.size ≤ maxLen) : Calls Try.prog 4 #[.string s] w fun e w' => e = .returned (.bool true) ∧ Below w.heap.size w w' := by
  by_cases hbig : s.size ≤ 1048576
  · have h1 : (s.size : Int) ≤ 1048576 := by omega
    have hlen := stV_len s
    have HA := Lib.hid (fun w => specStatementsOf s w hbig)
    have HB := Lib.hid (fun w => implStatementsOf s w hbig)
    obtain ⟨xs, hxs⟩ : ∃ xs, stV s = xs := ⟨_, rfl⟩
    rw [hxs] at HA HB hlen
    clear hxs
    go_enter Try.func4, Try.ntmps4
    go_wp2_with fail
    refine (HA.out _).mono ?_
    rintro e w1 ⟨v0, rfl, hs0, hb1⟩
    obtain ⟨g0, c0, rfl, hg0, hl0, _, _⟩ := strs_form hs0
    have S0 := Lib.hid hs0
    clear hs0
    go_wp2_with fail
    refine (HB.out _).mono ?_
    rintro e w2 ⟨v1, rfl, hs1, hb2⟩
    obtain ⟨g1, c1, rfl, hg1, hl1, _, _⟩ := strs_form hs1
    have S0' := Lib.hid (strs_below S0.out hb2)
    have HE1 := Lib.hid (eqStrs hs1 S0'.out rfl hlen)
    have S1 := Lib.hid hs1
    clear hs1
    go_wp2_with fail
    refine (HE1.out).mono ?_
    rintro e w3 ⟨rfl, hb3⟩
    obtain ⟨f, hrow, hn, hnc, _⟩ := strs_row (strs_below S1.out hb3)
    have HMK := Lib.hid (markStrs g1 xs.length c1 f 1 w3 hrow hnc (by omega) (by omega))
    have S0'' := Lib.hid (strs_below S0'.out hb3)
    have hne : g0 ≠ g1 := by omega
    have HB3 := Lib.hid (grew (grew hb1 hb2) hb3)
    have hw3 : w.heap.size ≤ w1.heap.size := hb1.size
    clear hrow hb1 hb2 hb3
    go_wp2_with fail
    refine (HMK.out).mono ?_
    rintro e w4 ⟨rfl, hrow4, hg4⟩
    have HHD := Lib.hid (heldStrs g1 xs.length c1 _ 1 w4 hrow4 hnc (fun i hi => by simp [hi]) (by omega) (by omega))
    have S04 := Lib.hid (strs_kept S0''.out hg4 (by intro e; cases e; exact hne rfl))
    have HB4 := Lib.hid (HB3.out.grown hg4 HB3.out.size (fun k hk => by cases hk; omega))
    have HROW := Lib.hid hrow4
    clear hrow4 hg4
    go_wp2_with fail
    refine (HHD.out).mono ?_
    rintro e w5 ⟨rfl, hb5⟩
    have hrow5 := HROW.out.of_block (w' := w5) (hb5.block g1 HROW.out.lt)
    have S05 := Lib.hid (strs_below S04.out hb5)
    have HB5 := Lib.hid (HB4.out.trans (hb5.mono HB4.out.size))
    have HROW5 := Lib.hid hrow5
    clear hrow5 hb5
    go_wp2_with fail
    refine (HB.out _).mono ?_
    rintro e w6 ⟨v2, rfl, hs2, hb6⟩
    obtain ⟨g2, c2, rfl, hg2, hl2, _, _⟩ := strs_form hs2
    have S06 := Lib.hid (strs_below S05.out hb6)
    have HE2 := Lib.hid (eqStrs hs2 S06.out rfl hlen)
    have hrow6 := HROW5.out.of_block (w' := w6) (hb6.block g1 HROW5.out.lt)
    have HROW6 := Lib.hid hrow6
    have HB6 := Lib.hid (HB5.out.trans (hb6.mono HB5.out.size))
    clear hs2 hrow6 hb6
    go_wp2_with fail
    refine (HE2.out).mono ?_
    rintro e w7 ⟨rfl, hb7⟩
    have hrow7 := HROW6.out.of_block (w' := w7) (hb7.block g1 HROW6.out.lt)
    have HHD2 := Lib.hid (heldStrs g1 xs.length c1 _ 1 w7 hrow7 hnc (fun i hi => by simp [hi]) (by omega) (by omega))
    have HB7 := Lib.hid (HB6.out.trans (hb7.mono HB6.out.size))
    clear hrow7 hb7
    go_wp2_with fail
    refine (HHD2.out).mono ?_
    rintro e w8 ⟨rfl, hb8⟩
    have HB8 := Lib.hid (HB7.out.trans (hb8.mono HB7.out.size))
    clear hb8
    go_wp2_with fail
    go_ret
    exact ⟨rfl, HB8.out⟩
  · have h1 : (1048576 : Int) < (s.size : Int) := by omega
    go_enter Try.func4, Try.ntmps4
    go_wp2_with fail
    go_ret
    exact ⟨rfl, Below.refl _ _⟩
end Go.Proofs.Ytaimlfhbcgocnaa.Stt
