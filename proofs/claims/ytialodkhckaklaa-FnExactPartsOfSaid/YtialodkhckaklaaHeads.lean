/- Contract: l3Heads: the heads of all statements, and their letters. -/
import Derived.Test.YtialodkhckaklaaSize
namespace Go.Proofs.Ytialodkhckaklaa.Hs
open Go.RowKit Go.Deep Go.Proofs.Ytialodkhckaklaa.Pl Go.Proofs.Ytialodkhckaklaa.Bi Go.Proofs.Ytialodkhckaklaa.Fi Go.Proofs.Ytialodkhckaklaa.Ed Go.Proofs.Ytialodkhckaklaa.Ps Go.Proofs.Ytialodkhckaklaa.Sw Go.Proofs.Ytialodkhckaklaa.Hd Go.Proofs.Ytialodkhckaklaa.Pp Go.Proofs.Ytialodkhckaklaa.Ea Go.Proofs.Ytialodkhckaklaa.Sz
set_option linter.unusedVariables false

section
variable {P : Program} {w : World} {ops : Array Oper} {rest : List Oper} {o : Oper} {a : Act} {Q : Exit → Act → World → Prop}
/-- Some more elements are appended: the row is the one that it was, or a new one. -/
theorem wpList_append_more (hgd : o.guard = none) (s x : Operand) (t : TypeId) (ho : o.op = .call { callee := .builtin .append, args := #[s, x], argTypes := #[t, t] })
    (base : Nat) (e : TypeId) (i : TypeInfo) (z : Value) (bytes : Nat) (ht : P.underlying t = some (.slice e)) (hi : P.info? e = some i) (hz : i.zero = some z) (hsize : i.size = 1) (hby : i.bytes = bytes) (hb16 : bytes ≤ 16) (hzs : z.cells.size = 1)
    (v : Value) (xs : List Value) (hs : a.eval s = v) (hown : w.ownsRow base e 1 v xs.length xs) (ad : Addr) (m c : Nat) (news : List Value) (hx : a.eval x = .slice (some ad) m c) (hl : news.length = m)
    (hnews : ∀ j u, news[j]? = some u → w.cell? (ad.add j) = some u) (h1 : ∀ u ∈ news, u.oneCell' = true) (hne : 0 < m) (hlen : xs.length + m ≤ 1000000) (hbase : base ≤ w.heap.size)
    (hK : ∀ v' w', w'.ownsRow base e 1 v' (xs ++ news).length (xs ++ news) → w.grownBy w' v.ownBlock → (v'.ownBlock = v.ownBlock ∨ ∃ g, v'.ownBlock = some g ∧ w.heap.size ≤ g) → wpList P ops Q rest (a.put o.dst v') w') :
    wpList P ops Q (o :: rest) a w := by
  have hll : (xs ++ news).length = xs.length + m := by simp [hl]
  rw [hll] at hK
  have hby2 : (xs.length + m) * bytes ≤ 140737488355328 := Nat.le_trans (Nat.mul_le_mul hlen hb16) (by omega)
  rcases hown.2 with ⟨hv, hn⟩ | ⟨g, cap, cur, hv, hg, hh, hcap, hcm, hcs, htk⟩
  · have hnil : xs = [] := List.eq_nil_of_length_eq_zero hn
    subst hnil
    refine wpList_append_grows w hgd s x t ho e i z 1 bytes ht hi hz hsize hby hzs (by omega) none 0 0 [] (hs.trans hv) (fun _ => ⟨rfl, rfl⟩) rfl (fun _ h => by cases h) ad m c news hx (by omega) hnews h1 (by omega) (by unfold maxLen; simp at hlen ⊢; omega) (by simpa using hby2) ?_
    intro v' w' ho' hg'
    refine hK v' w' (owns_mono (by simpa using ho') hbase) (grown_any hg') (.inr ?_)
    rcases ho'.2 with ⟨_, h0⟩ | ⟨g, cap, cur, hv', hgg, _⟩
    · omega
    · exact ⟨g, by rw [hv']; rfl, hgg⟩
  · subst hv
    by_cases hroom : xs.length + m ≤ cap
    · refine wpList_append_fits w hgd s x t ho base e i 1 ht hi hsize g xs.length cap xs hs hown ad m c news hx (by omega) hnews h1 hroom ?_
      intro w' ho' hg'
      exact hK _ w' ho' hg' (.inl rfl)
    · refine wpList_append_grows w hgd s x t ho e i z 1 bytes ht hi hz hsize hby hzs (by omega) (some ⟨g, 0, none⟩) xs.length cap xs hs (fun h => by cases h) (by simp) (fun b hb j u hj => by
        cases hb; exact hown.cells rfl j u hj) ad m c news hx (by omega) hnews h1 (by omega) (by unfold maxLen; omega) hby2 ?_
      intro v' w' ho' hg'
      refine hK v' w' (owns_mono ho' hbase) (grown_any hg') (.inr ?_)
      rcases ho'.2 with ⟨_, h0⟩ | ⟨g', cap', cur', hv', hgg, _⟩
      · omega
      · exact ⟨g', by rw [hv']; rfl, hgg⟩
end
theorem strs_ne {base : Nat} {w w' : World} {v v' : Value} {xs ys : List ByteArray} (h : strs base w v xs) (hn : v'.ownBlock = v.ownBlock ∨ ∃ g, v'.ownBlock = some g ∧ w.heap.size ≤ g) : v' ≠ .slice none 0 0 := by
  intro e
  subst e
  obtain ⟨g, cap, rfl, _⟩ := strs_form h
  rcases hn with hn | ⟨g', hn, _⟩ <;> cases hn
theorem strs_all {base : Nat} {w : World} {v : Value} {xs : List ByteArray} (h : strs base w v xs) {g : Nat} (hg : v.ownBlock = some g) : ∀ j u, (xs.map Value.string)[j]? = some u → w.cell? ((⟨g, 0, none⟩ : Addr).add j) = some u := h.1.cells hg
theorem strs_one (xs : List ByteArray) : ∀ u ∈ xs.map Value.string, u.oneCell' = true := by
  intro u hu
  obtain ⟨x, _, rfl⟩ := List.mem_map.1 hu
  rfl
theorem strs_kept {base : Nat} {w w' : World} {v : Value} {xs : List ByteArray} {row : Option Nat} (h : strs base w v xs) (hg : w.grownBy w' row) (hne : v.ownBlock ≠ row) : strs base w' v xs := ⟨h.1.kept hg (.inr hne), h.2⟩
/-- A new row out of a literal of one element. -/
theorem strs_lit (w : World) (x : ByteArray) (base : Nat) (hb : base ≤ w.heap.size) : strs base (w.alloc (.cells #[.string x] 9)) (.slice (some ⟨w.heap.size, 0, none⟩) 1 1) [x] :=
  ⟨⟨rfl, .inr ⟨w.heap.size, 1, #[.string x], rfl, hb, blk_alloc_new _ _, Nat.le_refl _, by unfold maxLen; omega, rfl, rfl⟩⟩, by simp⟩
theorem cut_one (b : UInt8) (l : List UInt8) : (bs (b :: l)).extract 0 1 = bs [b] := by
  refine bs_of ?_
  simp [bs, ByteArray.data_extract]
theorem strs_cell {base : Nat} {w : World} {xs : List ByteArray} {g n c : Nat} (h : strs base w (.slice (some ⟨g, 0, none⟩) n c) xs) {i : Nat} {x : ByteArray} (hx : xs[i]? = some x) : w.cell? ⟨g, i, none⟩ = some (.string x) := by
  have := strs_all h (g := g) rfl i (.string x) (by rw [List.getElem?_map, hx]; rfl)
  have e : (⟨g, 0, none⟩ : Addr).add i = ⟨g, i, none⟩ := by unfold Addr.add; split <;> simp_all
  rw [e] at this
  exact this
theorem app_more {base : Nat} {w3 w4 : World} {v' : Value} {ys zs : List ByteArray} {g n c : Nat} (h : strs base w3 (.slice (some ⟨g, 0, none⟩) n c) ys)
    (ho : w4.ownsRow base 9 1 v' (ys.map Value.string ++ zs.map Value.string).length (ys.map Value.string ++ zs.map Value.string)) (hg : w3.grownBy w4 (some g))
    (hn : v'.ownBlock = some g ∨ ∃ g', v'.ownBlock = some g' ∧ w3.heap.size ≤ g') :
    (∃ g' c', v' = .slice (some ⟨g', 0, none⟩) (ys ++ zs).length c' ∧ (g' = g ∨ w3.heap.size ≤ g')) ∧ strs base w4 v' (ys ++ zs) ∧ (∀ B W, B ≤ base → Below B W w3 → B ≤ w3.heap.size → Below B W w4) ∧ w3.heap.size ≤ w4.heap.size := by
  have hl : (ys.map Value.string ++ zs.map Value.string).length = (ys ++ zs).length := by simp
  rw [hl, ← List.map_append] at ho
  have hne : v' ≠ .slice none 0 0 := by
    intro e
    subst e
    rcases hn with hn | ⟨g', hn, _⟩ <;> cases hn
  refine ⟨?_, ⟨ho, hne⟩, fun B W hB hb hl => hb.grown hg hl fun k hk => ?_, hg.size⟩
  · rcases ho.2 with ⟨e, _⟩ | ⟨g1, cap, cur, e, _⟩
    · exact absurd e hne
    · refine ⟨g1, cap, e, ?_⟩
      subst e
      rcases hn with hn | ⟨g', hn, hs⟩
      · cases hn; exact .inl rfl
      · cases hn; exact .inr hs
  · cases hk
    exact Nat.le_trans hB (h.1.lt g rfl).1
def headsL (l : List (UInt8 × F)) : List ByteArray := l.map fun x => bs (headT x.1 x.2)
def kindsL (l : List (UInt8 × F)) : List UInt8 := l.map fun x => x.1
set_option maxRecDepth 100000 in
set_option maxHeartbeats 8000000 in
theorem specHeads (wide : Bool) (n : Nat) : ∀ (b : UInt8) (k : F) (w : World), k.size < n → Is wide 2 b k → k.size ≤ 900 →
    Calls Try.prog 51 #[.string (bs (tx b k)), .bool wide] w fun e w' => ∃ v, e = .returned (.tuple #[v, .string (bs (kindsL (pre b k)))]) ∧ strs w.heap.size w' v (headsL (pre b k)) ∧ Below w.heap.size w w' := by
  obtain ⟨i0, hi0, hz0, hz1, hz2⟩ := info_parts infoStr
  induction n with
  | zero =>
    intro b k w hk hi hs
    omega
  | succ n ih =>
    intro b k w hk hi hs
    have IH := Lib.hid ih
    clear ih
    obtain ⟨r0, hr0⟩ := head_front hi
    have z := bs_size (tx b k)
    have z2 := tx_size b k
    have z3 : (headT b k).length ≤ k.size := by
      have := congrArg List.length hr0
      rw [F.length_text, List.length_append] at this
      omega
    have HH := Lib.hid (fun w => specHead wide b k w hi (by omega))
    have HP := Lib.hid (fun w => specParts wide b k w hi (by omega))
    have HE := Lib.hid (preTo_all b k)
    have HI := Lib.hid hi
    have hpl := parts_len (b := b) (k := k)
    have i1 : (1 : Int) + ((headT b k).length : Int) ≤ ((bs (tx b k)).size : Int) := by omega
    have i2 : ((1 : Int) + ((headT b k).length : Int)).toNat = 1 + (headT b k).length := by omega
    have i3 : (1 : Int) ≤ 1 + ((headT b k).length : Int) := by omega
    have i4 : (1 : Int) ≤ ((bs (tx b k)).size : Int) := by omega
    have HC1 := Lib.hid (show (bs (tx b k)).extract 1 (1 + (headT b k).length) = bs (headT b k) by rw [tx, hr0, cut_front])
    have HC2 := Lib.hid (show (bs (tx b k)).extract 0 1 = bs [b] from cut_one b k.text)
    clear hi hr0
    go_enter Try.func51, Try.ntmps51
    go_wp2_with fail
    refine (HH.out _).mono ?_
    rintro e w1 ⟨rfl, hb1⟩
    go_wp2_with fail
    refine (HP.out _).mono ?_
    rintro e w2 ⟨v, rfl, hv, hb2⟩
    have s0 := strs_lit w1 ((bs (tx b k)).extract 1 (1 + (headT b k).length)) w.heap.size hb1.size
    rw [HC1.out] at s0 hb2 hv
    have s1 := strs_below s0 hb2
    have hb3 := (hb1.alloc hb1.size (.cells #[.string (bs (headT b k))] 9)).trans (hb2.mono (Nat.le_trans hb1.size (by simp)))
    obtain ⟨gp, cp, rfl, hgp, hgpl, hcp, _⟩ := strs_form hv
    rw [List.length_map] at hcp ⊢
    rw [List.length_map] at hv
    have hgne : w1.heap.size ≠ gp := by
      have : (w1.alloc (.cells #[.string (bs (headT b k))] 9)).heap.size = w1.heap.size + 1 := by simp
      omega
    obtain ⟨B2, hB2⟩ : ∃ B2, (w1.alloc (.cells #[.string (bs (headT b k))] 9)).heap.size = B2 := ⟨_, rfl⟩
    rw [hB2] at hv
    have HV := Lib.hid hv
    have HB3 := Lib.hid hb3
    have HS1 := Lib.hid s1
    obtain ⟨m, hm⟩ : ∃ m, (partsOf b k).length = m := ⟨_, rfl⟩
    rw [hm] at hpl HE HV hcp ⊢
    have HM := Lib.hid hm
    clear hm hv hb3 hb2 hb1 hB2 hgp s0 s1
    go_wp2_with fail
    go_loopw [6, 7, 9, 10, 11] (fun out ks i u1 u2 wr => ∃ (j g c : Nat), j ≤ m ∧ i = .int .i64 j ∧ out = .slice (some ⟨g, 0, none⟩) (1 + (preTo b k j).length) c ∧ ks = .string (bs (kindsL ((b, k) :: preTo b k j))) ∧
      Hid (strs w.heap.size wr (.slice (some ⟨g, 0, none⟩) (1 + (preTo b k j).length) c) (headsL ((b, k) :: preTo b k j))) ∧ Hid (strs B2 wr (.slice (some ⟨gp, 0, none⟩) m cp) ((partsOf b k).map fun x => bs (tx x.1 x.2))) ∧ g ≠ gp ∧ Hid (Below w.heap.size w wr)) (fun _ _ i _ _ _ => m - (intOf i).toNat)
    case atStart => exact ⟨0, w1.heap.size, 1, Nat.zero_le _, rfl, by rw [preTo_zero]; rfl, by rw [preTo_zero, HC2.out]; rfl, by rw [preTo_zero]; exact HS1, HV, hgne, HB3⟩
    case round =>
      obtain ⟨j, g, c, hj, rfl, rfl, rfl, hown, hpar, hne, hb⟩ := hrel
      by_cases hlt : j < m
      · obtain ⟨x, hxj⟩ : ∃ x, (partsOf b k)[j]? = some x := ⟨_, List.getElem?_eq_getElem (by rw [HM.out]; exact hlt)⟩
        have hcell : wr.cell? ⟨gp, j, none⟩ = some (.string (bs (tx x.1 x.2))) := strs_cell hpar.out (by rw [List.getElem?_map, hxj]; rfl)
        have hps := part_size (List.mem_of_getElem? hxj)
        have hlen := preTo_len hxj
        have hpre := pre_len x.1 x.2
        have hne1 : 0 < (pre x.1 x.2).length := by rw [pre_eq]; simp
        have HC := Lib.hid (IH.out x.1 x.2 wr (by omega) (part_is HI.out (List.mem_of_getElem? hxj)) (by omega))
        have HST := Lib.hid (preTo_step hxj)
        clear hxj
        go_wp2_with fail
        refine (HC.out).mono ?_
        rintro e w3 ⟨v3, rfl, hs3, hb3⟩
        obtain ⟨g3, c3, rfl, hg3, hgl3, hc3, _⟩ := strs_form hs3
        have hp3 := strs_below hpar.out hb3
        have ho3 := strs_below hown.out hb3
        have hB3 := hb.out.trans (hb3.mono hb.out.size)
        have hgpl := (hpar.out.1.lt gp rfl).2
        have hsz3 := hb3.size
        have hl3 : (headsL (pre x.1 x.2)).length = (pre x.1 x.2).length := by simp [headsL]
        have hlo : (headsL ((b, k) :: preTo b k j)).length = 1 + (preTo b k j).length := by simp [headsL]; omega
        have HH3 := Lib.hid hs3
        have HO3 := Lib.hid ho3
        have HP3 := Lib.hid hp3
        have HB3' := Lib.hid hB3
        have k1 : (bs (kindsL ((b, k) :: preTo b k j))).size ≤ 2000 := by rw [bs_size]; simp [kindsL]; omega
        have k2 : (bs (kindsL (pre x.1 x.2))).size ≤ 2000 := by rw [bs_size]; simp [kindsL]; omega
        have HK := Lib.hid (show bs (kindsL ((b, k) :: preTo b k (j + 1))) = bs (kindsL ((b, k) :: preTo b k j)) ++ bs (kindsL (pre x.1 x.2)) by rw [HST.out, bs_app]; simp [kindsL])
        have HL := Lib.hid (show headsL ((b, k) :: preTo b k (j + 1)) = headsL ((b, k) :: preTo b k j) ++ headsL (pre x.1 x.2) by rw [HST.out]; simp [headsL])
        have HN := Lib.hid (show 1 + (preTo b k (j + 1)).length = (headsL ((b, k) :: preTo b k j) ++ headsL (pre x.1 x.2)).length by rw [List.length_append, hlo, hl3, HST.out, List.length_append]; omega)
        obtain ⟨ys, hys⟩ : ∃ ys, headsL ((b, k) :: preTo b k j) = ys := ⟨_, rfl⟩
        obtain ⟨zs, hzs⟩ : ∃ zs, headsL (pre x.1 x.2) = zs := ⟨_, rfl⟩
        obtain ⟨K1, hK1⟩ : ∃ K1, bs (kindsL ((b, k) :: preTo b k j)) = K1 := ⟨_, rfl⟩
        obtain ⟨K2, hK2⟩ : ∃ K2, bs (kindsL (pre x.1 x.2)) = K2 := ⟨_, rfl⟩
        rw [hys] at HO3 HL HN hlo
        rw [hzs] at HH3 HL HN hl3 ⊢
        rw [hK1] at k1 HK ⊢
        rw [hK2] at k2 HK ⊢
        clear hys hzs hK1 hK2 hs3 hp3 ho3 hB3 hb3 hown hpar hb HC
        have HO4 := Lib.hid (show w3.ownsRow w.heap.size 9 1 (.slice (some ⟨g, 0, none⟩) (1 + (preTo b k j).length) c) (ys.map Value.string).length (ys.map Value.string) by rw [List.length_map]; exact HO3.out.1)
        go_wp2_with (at_builtin; refine wpList_append_more rfl (.tmp 38) (.tmp 39) 24 rfl w.heap.size 9 i0 (.string ⟨#[]⟩) 16 Try.underlying24 hi0 hz0 hz1 hz2 (by decide) rfl (.slice (some ⟨g, 0, none⟩) (1 + (preTo b k j).length) c) (ys.map Value.string) rfl HO4.out ⟨g3, 0, none⟩ _ c3 (zs.map Value.string) rfl (by rw [List.length_map]; exact hl3) (strs_all HH3.out rfl) (strs_one _) (by omega) (by rw [List.length_map]; omega) (Nat.le_trans HB3'.out.size (Nat.le_refl _)) ?_; intro v' w4 ho4 hg4 hn4; obtain ⟨⟨g4, c4, rfl, hgg⟩, O4, B4, L4⟩ := app_more HO3.out ho4 hg4 hn4)
        go_roundw
        case rel => exact ⟨j + 1, g4, c4, by omega, by go_num, by rw [HN.out, List.length_append, hlo, hl3], by rw [HK.out], Lib.hid (by rw [HN.out, HL.out]; exact O4), Lib.hid (strs_kept HP3.out hg4 (by intro e; cases e; exact hne rfl)), hgg.elim (fun h => by rw [h]; exact hne) (fun h => by omega), Lib.hid (B4 _ _ (Nat.le_refl _) HB3'.out HB3'.out.size)⟩
        case measure => simp [intOf]; omega
      · obtain rfl : j = m := by omega
        rw [HE.out] at hown
        have HKK := Lib.hid (show bs (kindsL ((b, k) :: preTo b k j)) = bs (kindsL (pre b k)) by rw [HE.out])
        obtain ⟨K1, hK1⟩ : ∃ K1, bs (kindsL ((b, k) :: preTo b k j)) = K1 := ⟨_, rfl⟩
        rw [hK1] at HKK ⊢
        clear hK1
        go_wp2_with fail
        exact bodyPost_ret (v := .tuple #[.slice (some ⟨g, 0, none⟩) (1 + (preTo b k j).length) c, .string K1]) (by simp [results, Try.results51, go_sem]) rfl ⟨_, by rw [HKK.out], hown.out, hb.out⟩
end Go.Proofs.Ytialodkhckaklaa.Hs
