/- Contracts and law: PartsOf. -/
import Derived.Test.YtialodkhckaklaaStrs
namespace Go.Proofs.Ytialodkhckaklaa.Pv
open Go.RowKit Go.Deep Go.Sort Go.Proofs.Ytialodkhckaklaa.Pl Go.Proofs.Ytialodkhckaklaa.Bi Go.Proofs.Ytialodkhckaklaa.Fi Go.Proofs.Ytialodkhckaklaa.Ed Go.Proofs.Ytialodkhckaklaa.Ps Go.Proofs.Ytialodkhckaklaa.Sw Go.Proofs.Ytialodkhckaklaa.Hd Go.Proofs.Ytialodkhckaklaa.Pp Go.Proofs.Ytialodkhckaklaa.Ea Go.Proofs.Ytialodkhckaklaa.Sz Go.Proofs.Ytialodkhckaklaa.Hs Go.Proofs.Ytialodkhckaklaa.Sr
set_option linter.unusedVariables false

theorem kidsAt_imp {S S' : Nat → Prop} {w : World} (h : ∀ b, S b → (∃ o v, w.cell? ⟨b, o, none⟩ = some v) → S' b) {v : Value} {qs : List Nat} (hk : kidsAt S w v qs) : kidsAt S' w v qs := by
  rcases hk with hk | ⟨hq, g, cap, hg, hv, hc⟩
  · exact .inl hk
  · cases qs with
    | nil => exact absurd rfl hq
    | cons q qs => exact .inr ⟨hq, g, cap, ⟨h g hg.1 ⟨0, _, hc 0 q rfl⟩, hg.2⟩, hv, hc⟩
theorem inW_imp {S S' : Nat → Prop} {w : World} (h : ∀ b, S b → (∃ o v, w.cell? ⟨b, o, none⟩ = some v) → S' b) : ∀ {t : F} {ps : List Nat}, inW S w t ps → inW S' w t ps := by
  intro t
  induction t with
  | nil => intro ps hi; cases ps with
    | nil => trivial
    | cons p ps => exact hi.elim
  | node b k n ihk ihn =>
    intro ps hi
    cases ps with
    | nil => exact hi.elim
    | cons p ps =>
      obtain ⟨hp, h0, h2, ⟨v, qs, h1, hk, hkk⟩, hn⟩ := hi
      exact ⟨h p hp ⟨0, _, h0⟩, h0, h2, ⟨v, qs, h1, kidsAt_imp h hk, ihk hkk⟩, ihn hn⟩
/-- What the function answers. -/
def listV (s : ByteArray) : List ByteArray := progV false 200 (fun b k => (partsOf b k).map fun x => bs (tx x.1 x.2)) [] s
theorem listV_len (s : ByteArray) : (listV s).length ≤ 1000 := by
  unfold listV progV
  split
  · rename_i h
    obtain ⟨hl, b, k, hi, rfl⟩ := okS_is h
    have := P_is hi []
    rw [List.append_nil] at this
    rw [bs_list, this]
    simp only [List.length_map]
    have h1 := parts_len (b := b) (k := k)
    rw [bs_size, tx_size] at hl
    omega
  · simp
theorem strs_empty (w : World) (base : Nat) (hb : base ≤ w.heap.size) : strs base (w.alloc (.cells #[] 9)) (.slice (some ⟨w.heap.size, 0, none⟩) 0 0) ([] : List ByteArray) :=
  ⟨World.ownsRow_made w #[] 0 hb (by unfold maxLen; omega) rfl, by simp⟩
theorem specPartsOf (s : ByteArray) (w : World) (hs : s.size ≤ 1048576) : Calls Try.prog 23 #[.string s] w fun e w' => ∃ v, e = .returned v ∧ strs w.heap.size w' v (listV s) ∧ Below w.heap.size w w' := by
  have hv := Lib.hid (fun w => specProgramValid s w hs)
  cases h : okS false 2 200 s with
  | false =>
    have H := Lib.hid (show listV s = [] from progV_no _ _ h)
    rw [h] at hv
    clear h
    go_enter Try.func23, Try.ntmps23
    go_wp2_with fail
    refine (hv.out _).mono ?_
    rintro e w1 ⟨rfl, hb⟩
    go_wp2_with fail
    go_ret
    exact ⟨_, rfl, by rw [H.out]; exact strs_empty w1 _ hb.size, hb.alloc hb.size _⟩
  | true =>
    obtain ⟨hl, b, k, hi, rfl⟩ := okS_is h
    have H := Lib.hid (show listV (bs (tx b k)) = _ from progV_is _ _ hi h)
    rw [h] at hv
    rw [bs_size] at hl
    have HC := Lib.hid (fun w => specParts false b k w hi (by omega))
    clear h hl hi
    go_enter Try.func23, Try.ntmps23
    go_wp2_with fail
    refine (hv.out _).mono ?_
    rintro e w1 ⟨rfl, hb⟩
    go_wp2_with fail
    refine (HC.out _).mono ?_
    rintro e w2 ⟨v, rfl, hst, hb2⟩
    obtain ⟨g, cp, rfl, _⟩ := strs_form hst
    rw [List.length_map] at hst
    have HST := Lib.hid (show strs w.heap.size w2 _ _ from ⟨owns_mono hst.1 hb.size, hst.2⟩)
    clear hst
    go_wp2_with fail
    go_ret
    exact ⟨_, rfl, by rw [H.out]; exact HST.out, grew hb hb2⟩
set_option maxRecDepth 100000 in
set_option maxHeartbeats 4000000 in
theorem implPartsOf (s : ByteArray) (w : World) (hs : s.size ≤ 1048576) : Calls Try.prog 24 #[.string s] w fun e w' => ∃ v, e = .returned v ∧ strs w.heap.size w' v (listV s) ∧ Below w.heap.size w w' := by
  obtain ⟨i0, hi0, hz0, hz1, hz2⟩ := info_parts infoStr
  have hp := Lib.hid (fun w => implParseProg s w hs)
  have s0 := strs_empty w w.heap.size (Nat.le_refl _)
  have hb0 : Below w.heap.size w (w.alloc (.cells #[] 9)) := (Below.refl _ w).alloc (Nat.le_refl _) _
  have hbl : (w.alloc (.cells #[] 9)).heap[w.heap.size]? = some (.cells #[] 9) := blk_alloc_new _ _
  have hsz : (w.alloc (.cells #[] 9)).heap.size = w.heap.size + 1 := by simp
  obtain ⟨W0, hW0⟩ : ∃ W, w.alloc (.cells #[] 9) = W := ⟨_, rfl⟩
  have HW0 := Lib.hid hW0
  rw [hW0] at s0 hb0 hbl hsz
  clear hW0
  go_enter Try.func24, Try.ntmps24
  go_wp2_with fail
  rw [HW0.out]
  refine (hp.out _).mono ?_
  rintro e w1 (⟨h, rfl, hb⟩ | ⟨b, k, p, h, hi, rfl, rfl, hT, hb⟩)
  · have H := Lib.hid (show listV s = [] from progV_no _ _ h)
    have S1 := Lib.hid (strs_below s0 hb)
    have HB := Lib.hid (grew hb0 hb)
    clear h s0 hb hb0 hbl hp
    go_wp2_with fail
    go_ret
    exact ⟨_, rfl, by rw [H.out]; exact S1.out, HB.out⟩
  · have H := Lib.hid (show listV (bs (tx b k)) = _ from progV_is _ _ hi h)
    have hl := (okS_is h).1
    rw [bs_size, tx_size] at hl
    have hpl := parts_len (b := b) (k := k)
    have hblk1 : w1.heap[w.heap.size]? = some (.cells #[] 9) := by rw [hb.block _ (by omega)]; exact hbl
    have hT' := inW_imp (S' := fun x => x < w1.heap.size ∧ x ≠ w.heap.size) (fun x _ ⟨o, v, hc⟩ => ⟨lt_of_cell hc, fun e => by
      subst e
      unfold World.cell? at hc
      rw [hblk1] at hc
      simp at hc⟩) hT
    have HPa := Lib.hid (implParts _ false b k p w1 hi hT')
    have S1 := Lib.hid (strs_below s0 hb)
    have HB := Lib.hid (grew hb0 hb)
    have hlt1 : w.heap.size < w1.heap.size := by have := hb.size; omega
    clear h s0 hb hb0 hbl hp hT hT' hi hblk1
    go_wp2_with fail
    refine (HPa.out).mono ?_
    rintro e w2 ⟨⟨v, rfl, hv⟩, rfl⟩
    rcases hv with ⟨he, rfl⟩ | ⟨g0, o0, cp0, rfl, hg0, _, hc0, hx0⟩
    · have H1 := Lib.hid (show listV (bs (tx b k)) = [] by rw [H.out, he]; rfl)
      go_wp2_with fail
      refine wp_loop_rounds 1 ?_
      rw [rounds_succ]
      go_wp2_with fail
      go_ret
      exact ⟨_, rfl, by rw [H1.out]; exact S1.out, HB.out⟩
    · have HX := Lib.hid hx0
      have HG0 := Lib.hid hg0
      obtain ⟨m, hm⟩ : ∃ m, (partsOf b k).length = m := ⟨_, rfl⟩
      rw [hm] at hc0 hpl ⊢
      have HM := Lib.hid hm
      clear hm hx0 hg0
      go_wp2_with fail
      go_loopw [3, 6, 16] (fun out u i wr => ∃ (j g c : Nat), j ≤ m ∧ i = .int .i64 j ∧ out = .slice (some ⟨g, 0, none⟩) j c ∧ Hid (strs w.heap.size wr (.slice (some ⟨g, 0, none⟩) j c) (((partsOf b k).take j).map fun x => bs (tx x.1 x.2))) ∧
        Hid (Below w.heap.size w wr) ∧ (g = w.heap.size ∨ w1.heap.size ≤ g) ∧ w1.heap.size ≤ wr.heap.size ∧ Hid (∀ x, x < w1.heap.size ∧ x ≠ w.heap.size → wr.heap[x]? = w1.heap[x]?)) (fun _ _ i _ => m - (intOf i).toNat)
      case atStart => exact ⟨0, w.heap.size, 0, Nat.zero_le _, rfl, rfl, S1, HB, .inl rfl, Nat.le_refl _, Lib.hid fun _ _ => rfl⟩
      case round =>
        obtain ⟨j, g, c, hj, rfl, rfl, hown, hb, hgg, hsz1, hst⟩ := hrel
        by_cases hlt : j < m
        · obtain ⟨x, hxj⟩ : ∃ x, (partsOf b k)[j]? = some x := ⟨_, List.getElem?_eq_getElem (by rw [HM.out]; exact hlt)⟩
          obtain ⟨q, hq1, hq2⟩ := HX.out j x hxj
          have hcell : wr.cell? ⟨g0, o0 + j, none⟩ = some (.pointer (some ⟨q, 0, none⟩)) := by rw [cell_same (hst.out g0 HG0.out)]; exact hq1
          have htx : wr.cell? ⟨q, 2, none⟩ = some (.string (bs (tx x.1 x.2))) := by rw [cell_same (hst.out q hq2.1)]; exact hq2.2.2.1
          have HT := Lib.hid (show ((partsOf b k).take (j + 1)).map (fun x => bs (tx x.1 x.2)) = ((partsOf b k).take j).map (fun x => bs (tx x.1 x.2)) ++ [bs (tx x.1 x.2)] by rw [List.take_add_one, hxj]; simp)
          have HLN := Lib.hid (show (((partsOf b k).take j).map fun x => bs (tx x.1 x.2)).length = j by rw [List.length_map, List.length_take, HM.out]; omega)
          obtain ⟨y, hy⟩ : ∃ y, bs (tx x.1 x.2) = y := ⟨_, rfl⟩
          obtain ⟨ys, hys⟩ : ∃ ys, ((partsOf b k).take j).map (fun x => bs (tx x.1 x.2)) = ys := ⟨_, rfl⟩
          rw [hy] at HT htx
          rw [hys] at hown HT HLN
          have HO := Lib.hid (strs_alloc hown.out (.cells #[.string y] 9))
          have HO4 := Lib.hid (show (wr.alloc (.cells #[.string y] 9)).ownsRow w.heap.size 9 1 (.slice (some ⟨g, 0, none⟩) j c) (ys.map Value.string).length (ys.map Value.string) by rw [List.length_map]; exact HO.out.1)
          have HBA := Lib.hid (hb.out.alloc hb.out.size (.cells #[.string y] 9))
          have hza : (wr.alloc (.cells #[.string y] 9)).heap.size = wr.heap.size + 1 := by simp
          have HSA := Lib.hid (fun x (hx : x < wr.heap.size) => ((Below.refl _ wr).alloc (Nat.le_refl _) (.cells #[.string y] 9)).block x hx)
          clear hq1 hq2 hxj hy hys hown hb
          go_wp2_with (at_builtin; refine wpList_append_more rfl (.tmp 20) (.tmp 25) 24 rfl w.heap.size 9 i0 (.string ⟨#[]⟩) 16 Try.underlying24 hi0 hz0 hz1 hz2 (by decide) rfl (.slice (some ⟨g, 0, none⟩) j c) (ys.map Value.string) rfl HO4.out ⟨wr.heap.size, 0, none⟩ 1 1 ([y].map Value.string) rfl rfl (new_one _ _ _ _ rfl) (strs_one _) (by decide) (by rw [List.length_map, HLN.out]; omega) (Nat.le_trans HBA.out.size (Nat.le_refl _)) ?_; intro v' w4 ho4 hg4 hn4; obtain ⟨⟨g4, c4, rfl, hgg4⟩, O4, B4, L4⟩ := app_more HO.out ho4 hg4 hn4)
          go_roundw
          case rel => exact ⟨j + 1, g4, c4, by omega, by go_num, by rw [HLN.out], Lib.hid (by rw [List.length_append, HLN.out] at O4; rw [HT.out]; exact O4), Lib.hid (B4 _ _ (Nat.le_refl _) HBA.out HBA.out.size), by omega, by omega, Lib.hid fun x hx => (hg4.block x (by omega) (fun e => by
            have e' : x = g := by simpa [Value.ownBlock] using e
            omega)).trans ((HSA.out x (by omega)).trans (hst.out x hx))⟩
          case measure => simp [intOf]; omega
        · obtain rfl : j = m := by omega
          have HE := Lib.hid (show ((partsOf b k).take j).map (fun x => bs (tx x.1 x.2)) = (partsOf b k).map (fun x => bs (tx x.1 x.2)) by rw [List.take_of_length_le (by rw [HM.out]; exact Nat.le_refl _)])
          go_wp2_with fail
          go_ret
          exact ⟨_, rfl, by rw [H.out, ← HE.out]; exact hown.out, hb.out⟩
set_option maxRecDepth 100000 in
set_option maxHeartbeats 4000000 in
theorem lawPartsOf (s : ByteArray) (w : World) (hs : s.size ≤ maxLen) : Calls Try.prog 7 #[.string s] w fun e w' => e = .returned (.bool true) ∧ Below w.heap.size w w' := by
  by_cases hbig : s.size ≤ 1048576
  · have h1 : (s.size : Int) ≤ 1048576 := by omega
    have hlen := listV_len s
    have HA := Lib.hid (fun w => specPartsOf s w hbig)
    have HB := Lib.hid (fun w => implPartsOf s w hbig)
    obtain ⟨xs, hxs⟩ : ∃ xs, listV s = xs := ⟨_, rfl⟩
    rw [hxs] at HA HB hlen
    clear hxs
    go_enter Try.func7, Try.ntmps7
    go_wp2_with fail
    refine (HA.out _).mono ?_
    rintro e w1 ⟨v0, rfl, hs0, hb1⟩
    obtain ⟨g0, c0, rfl, hg0, hl0, _, _⟩ := strs_form hs0
    have S0 := Lib.hid hs0
    clear hs0
    go_wp2_with fail
    refine (HB.out _).mono ?_
    rintro e w2 ⟨v1, rfl, hs1, hb2⟩
    obtain ⟨g1, c1, rfl, hg1, hl1, _, _⟩ := strs_form hs1
    have S0' := Lib.hid (strs_below S0.out hb2)
    have HE1 := Lib.hid (eqStrs hs1 S0'.out rfl hlen)
    have S1 := Lib.hid hs1
    clear hs1
    go_wp2_with fail
    refine (HE1.out).mono ?_
    rintro e w3 ⟨rfl, hb3⟩
    obtain ⟨f, hrow, hn, hnc, _⟩ := strs_row (strs_below S1.out hb3)
    have HMK := Lib.hid (markStrs g1 xs.length c1 f 1 w3 hrow hnc (by omega) (by omega))
    have S0'' := Lib.hid (strs_below S0'.out hb3)
    have hne : g0 ≠ g1 := by omega
    have HB3 := Lib.hid (grew (grew hb1 hb2) hb3)
    have hw3 : w.heap.size ≤ w1.heap.size := hb1.size
    clear hrow hb1 hb2 hb3
    go_wp2_with fail
    refine (HMK.out).mono ?_
    rintro e w4 ⟨rfl, hrow4, hg4⟩
    have HHD := Lib.hid (heldStrs g1 xs.length c1 _ 1 w4 hrow4 hnc (fun i hi => by simp [hi]) (by omega) (by omega))
    have S04 := Lib.hid (strs_kept S0''.out hg4 (by intro e; cases e; exact hne rfl))
    have HB4 := Lib.hid (HB3.out.grown hg4 HB3.out.size (fun k hk => by cases hk; omega))
    have HROW := Lib.hid hrow4
    clear hrow4 hg4
    go_wp2_with fail
    refine (HHD.out).mono ?_
    rintro e w5 ⟨rfl, hb5⟩
    have hrow5 := HROW.out.of_block (w' := w5) (hb5.block g1 HROW.out.lt)
    have S05 := Lib.hid (strs_below S04.out hb5)
    have HB5 := Lib.hid (HB4.out.trans (hb5.mono HB4.out.size))
    have HROW5 := Lib.hid hrow5
    clear hrow5 hb5
    go_wp2_with fail
    refine (HB.out _).mono ?_
    rintro e w6 ⟨v2, rfl, hs2, hb6⟩
    obtain ⟨g2, c2, rfl, hg2, hl2, _, _⟩ := strs_form hs2
    have S06 := Lib.hid (strs_below S05.out hb6)
    have HE2 := Lib.hid (eqStrs hs2 S06.out rfl hlen)
    have hrow6 := HROW5.out.of_block (w' := w6) (hb6.block g1 HROW5.out.lt)
    have HROW6 := Lib.hid hrow6
    have HB6 := Lib.hid (HB5.out.trans (hb6.mono HB5.out.size))
    clear hs2 hrow6 hb6
    go_wp2_with fail
    refine (HE2.out).mono ?_
    rintro e w7 ⟨rfl, hb7⟩
    have hrow7 := HROW6.out.of_block (w' := w7) (hb7.block g1 HROW6.out.lt)
    have HHD2 := Lib.hid (heldStrs g1 xs.length c1 _ 1 w7 hrow7 hnc (fun i hi => by simp [hi]) (by omega) (by omega))
    have HB7 := Lib.hid (HB6.out.trans (hb7.mono HB6.out.size))
    clear hrow7 hb7
    go_wp2_with fail
    refine (HHD2.out).mono ?_
    rintro e w8 ⟨rfl, hb8⟩
    have HB8 := Lib.hid (HB7.out.trans (hb8.mono HB7.out.size))
    clear hb8
    go_wp2_with fail
    go_ret
    exact ⟨rfl, HB8.out⟩
  · have h1 : (1048576 : Int) < (s.size : Int) := by omega
    go_enter Try.func7, Try.ntmps7
    go_wp2_with fail
    go_ret
    exact ⟨rfl, Below.refl _ _⟩
end Go.Proofs.Ytialodkhckaklaa.Pv
