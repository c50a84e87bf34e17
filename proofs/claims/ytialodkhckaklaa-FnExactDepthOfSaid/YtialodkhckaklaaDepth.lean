/- Contracts and law: DepthOf. -/
import Derived.Test.YtialodkhckaklaaSize
namespace Go.Proofs.Ytialodkhckaklaa.Dp
open Go.RowKit Go.Deep Go.Proofs.Ytialodkhckaklaa.Pl Go.Proofs.Ytialodkhckaklaa.Bi Go.Proofs.Ytialodkhckaklaa.Fi Go.Proofs.Ytialodkhckaklaa.Ed Go.Proofs.Ytialodkhckaklaa.Ps Go.Proofs.Ytialodkhckaklaa.Sw Go.Proofs.Ytialodkhckaklaa.Hd Go.Proofs.Ytialodkhckaklaa.Pp Go.Proofs.Ytialodkhckaklaa.Ea Go.Proofs.Ytialodkhckaklaa.Sz
set_option linter.unusedVariables false

/-- The greatest depth among the first so many parts. -/
def depTo (b : UInt8) (k : F) (i : Nat) : Nat := (((partsOf b k).take i).map fun x => dep x.1 x.2).foldl max 0
theorem depTo_zero (b : UInt8) (k : F) : depTo b k 0 = 0 := by simp [depTo]
theorem depTo_step {b : UInt8} {k : F} {i : Nat} {x : UInt8 × F} (h : (partsOf b k)[i]? = some x) : depTo b k (i + 1) = max (depTo b k i) (dep x.1 x.2) := by
  unfold depTo
  rw [List.take_add_one, h]
  simp [List.foldl_append]
theorem depTo_all (b : UInt8) (k : F) : depTo b k (partsOf b k).length + 1 = dep b k := by
  rw [dep_eq]
  unfold depTo
  rw [List.take_of_length_le (Nat.le_refl _)]
theorem fold_max_le : ∀ (l : List Nat) (a m : Nat), a ≤ m → (∀ x ∈ l, x ≤ m) → l.foldl max a ≤ m
  | [], a, m, h, _ => h
  | x :: l, a, m, h, hl => fold_max_le l (max a x) m (by have := hl x (by simp); omega) fun y hy => hl y (by simp [hy])
theorem dep_le (n : Nat) : ∀ (b : UInt8) (k : F), k.size ≤ n → dep b k ≤ k.size + 1 := by
  induction n with
  | zero =>
    intro b k hk
    have h := parts_len (b := b) (k := k)
    have : partsOf b k = [] := List.eq_nil_of_length_eq_zero (by omega)
    rw [dep_eq, this]; simp
  | succ n ih =>
    intro b k hk
    rw [dep_eq]
    have : ((partsOf b k).map fun x => dep x.1 x.2).foldl max 0 ≤ k.size := by
      refine fold_max_le _ 0 _ (Nat.zero_le _) fun y hy => ?_
      obtain ⟨x, hx, rfl⟩ := List.mem_map.1 hy
      have h1 := part_size hx
      have h2 := ih x.1 x.2 (by omega)
      omega
    omega
theorem depTo_le (b : UInt8) (k : F) (i : Nat) : depTo b k i ≤ k.size := by
  refine fold_max_le _ 0 _ (Nat.zero_le _) fun y hy => ?_
  obtain ⟨x, hx, rfl⟩ := List.mem_map.1 hy
  have h1 := part_size (List.mem_of_mem_take hx)
  have h2 := dep_le x.2.size x.1 x.2 (Nat.le_refl _)
  omega
theorem max_cast (a b : Nat) : max (a : Int) (b : Int) = ((max a b : Nat) : Int) := by omega
/-- What the function answers. -/
def depV (s : ByteArray) : Int := progV false 200 (fun b k => (dep b k : Int)) (-1) s
set_option maxRecDepth 100000 in
set_option maxHeartbeats 4000000 in
theorem implDepth (wide : Bool) (n : Nat) : ∀ (b : UInt8) (k : F) (p : Nat) (w : World), k.size ≤ n → Is wide 2 b k → k.size ≤ 900 → isT w p b k →
    Calls Try.prog 45 #[.pointer (some ⟨p, 0, none⟩)] w fun e w' => e = .returned (.int .i64 (dep b k : Int)) ∧ Below w.heap.size w w' := by
  induction n with
  | zero =>
    intro b k p w hk hi hs hT
    have he : partsOf b k = [] := List.eq_nil_of_length_eq_zero (by have := parts_len (b := b) (k := k); omega)
    have HPa := Lib.hid (implParts _ wide b k p w hi hT)
    have HE := Lib.hid (show dep b k = 1 by rw [dep_eq, he]; rfl)
    rw [he] at HPa
    clear he hi hT
    go_enter Try.func45, Try.ntmps45
    go_wp2_with fail
    refine (HPa.out).mono ?_
    rintro e w2 ⟨⟨v, rfl, hv⟩, rfl⟩
    rcases hv with ⟨_, rfl⟩ | ⟨g, o, cp, rfl, _⟩
    · go_wp2_with fail
      refine wp_loop_rounds 1 ?_
      rw [rounds_succ]
      go_wp2_with fail
      go_ret
      exact ⟨by rw [HE.out]; rfl, Below.refl _ _⟩
    · simp only [List.length_nil]
      go_wp2_with fail
      refine wp_loop_rounds 1 ?_
      rw [rounds_succ]
      go_wp2_with fail
      go_ret
      exact ⟨by rw [HE.out]; rfl, Below.refl _ _⟩
  | succ n ih =>
    intro b k p w hk hi hs hT
    have IH := Lib.hid ih
    clear ih
    have HPa := Lib.hid (implParts _ wide b k p w hi hT)
    have HE := Lib.hid (depTo_all b k)
    have HI := Lib.hid hi
    have hpl := parts_len (b := b) (k := k)
    clear hi hT
    go_enter Try.func45, Try.ntmps45
    go_wp2_with fail
    refine (HPa.out).mono ?_
    rintro e w2 ⟨⟨v, rfl, hv⟩, rfl⟩
    rcases hv with ⟨he, rfl⟩ | ⟨g, o, cp, rfl, hg, hl, hc, hx⟩
    · have HE1 := Lib.hid (show dep b k = 1 by rw [← HE.out, he]; simp [depTo_zero])
      go_wp2_with fail
      refine wp_loop_rounds 1 ?_
      rw [rounds_succ]
      go_wp2_with fail
      go_ret
      exact ⟨by rw [HE1.out]; rfl, Below.refl _ _⟩
    · have HX := Lib.hid hx
      clear hx
      obtain ⟨m, hm⟩ : ∃ m, (partsOf b k).length = m := ⟨_, rfl⟩
      rw [hm] at hc hpl HE
      have HM := Lib.hid hm
      rw [hm]
      clear hm
      go_wp2_with fail
      go_loopw [3, 5, 9] (fun nn u i wr => ∃ j : Nat, j ≤ m ∧ i = .int .i64 j ∧ nn = .int .i64 (depTo b k j : Int) ∧ Below w.heap.size w wr) (fun _ _ i _ => m - (intOf i).toNat)
      case atStart => exact ⟨0, Nat.zero_le _, rfl, by rw [depTo_zero]; rfl, Below.refl _ _⟩
      case round =>
        obtain ⟨j, hj, rfl, rfl, hbj⟩ := hrel
        have hdl := depTo_le b k j
        by_cases hlt : j < m
        · obtain ⟨x, hxj⟩ : ∃ x, (partsOf b k)[j]? = some x := ⟨_, List.getElem?_eq_getElem (by rw [HM.out]; exact hlt)⟩
          obtain ⟨q, hq1, hq2⟩ := HX.out j x hxj
          have hcell : wr.cell? ⟨g, o + j, none⟩ = some (.pointer (some ⟨q, 0, none⟩)) := by rw [cell_same (hbj.block g (lt_of_cell hq1))]; exact hq1
          have hps := part_size (List.mem_of_getElem? hxj)
          have hdx := dep_le x.2.size x.1 x.2 (Nat.le_refl _)
          have HC := Lib.hid (IH.out x.1 x.2 q wr (by omega) (part_is HI.out (List.mem_of_getElem? hxj)) (by omega) (isT_below hbj hq2))
          have HST := Lib.hid (depTo_step hxj)
          have hmx := max_cast (depTo b k j) (dep x.1 x.2)
          clear hq1 hq2 hxj
          go_wp2_with fail
          refine (HC.out).mono ?_
          rintro e w3 ⟨rfl, hb3⟩
          go_wp2_with fail
          go_roundw
          case rel => exact ⟨j + 1, by omega, by go_num, by rw [HST.out]; go_num, hbj.trans (hb3.mono hbj.size)⟩
          case measure => simp [intOf]; omega
        · obtain rfl : j = m := by omega
          go_wp2_with fail
          go_ret
          exact ⟨by rw [← HE.out]; rfl, hbj⟩
set_option maxRecDepth 100000 in
theorem implDepthOf (s : ByteArray) (w : World) (hs : s.size ≤ 1048576) : Calls Try.prog 16 #[.string s] w fun e w' => e = .returned (.int .i64 (depV s)) ∧ Below w.heap.size w w' := by
  have hp := Lib.hid (implParseProg s w hs)
  go_enter Try.func16, Try.ntmps16
  go_wp2_with fail
  refine (hp.out).mono ?_
  rintro e w1 (⟨h, rfl, hb⟩ | ⟨b, k, p, h, hi, rfl, rfl, hT, hb⟩)
  · have H := Lib.hid (show depV s = -1 from progV_no _ _ h)
    clear h
    go_wp2_with fail
    go_ret
    exact ⟨by rw [H.out]; rfl, hb⟩
  · have H := Lib.hid (show depV (bs (tx b k)) = _ from progV_is _ _ hi h)
    have hl := (okS_is h).1
    rw [bs_size, tx_size] at hl
    have HC := Lib.hid (implDepth false k.size b k p w1 (Nat.le_refl _) hi (by omega) hT)
    clear h hT hi hl
    go_wp2_with fail
    refine (HC.out).mono ?_
    rintro e w2 ⟨rfl, hb2⟩
    go_wp2_with fail
    go_ret
    exact ⟨by rw [H.out]; rfl, grew hb hb2⟩
set_option maxRecDepth 100000 in
set_option maxHeartbeats 4000000 in
theorem specDepth (n : Nat) : ∀ (b : UInt8) (k : F) (w : World), k.size ≤ n → Is false 2 b k → k.size ≤ 900 →
    Calls Try.prog 43 #[.string (bs (tx b k))] w fun e w' => e = .returned (.int .i64 (dep b k : Int)) ∧ Below w.heap.size w w' := by
  induction n with
  | zero =>
    intro b k w hk hi hs
    have he : partsOf b k = [] := List.eq_nil_of_length_eq_zero (by have := parts_len (b := b) (k := k); omega)
    have HP := Lib.hid (fun w => specParts false b k w hi (by rw [tx_size]; omega))
    have HE := Lib.hid (show dep b k = 1 by rw [dep_eq, he]; rfl)
    rw [he] at HP
    clear he hi
    go_enter Try.func43, Try.ntmps43
    go_wp2_with fail
    refine (HP.out _).mono ?_
    rintro e w1 ⟨v, rfl, hv, hb1⟩
    obtain ⟨g, cap, rfl, _⟩ := strs_form hv
    clear hv
    simp only [List.map_nil, List.length_nil]
    go_wp2_with fail
    refine wp_loop_rounds 1 ?_
    rw [rounds_succ]
    go_wp2_with fail
    go_ret
    exact ⟨by rw [HE.out]; rfl, hb1⟩
  | succ n ih =>
    intro b k w hk hi hs
    have IH := Lib.hid ih
    clear ih
    have HP := Lib.hid (fun w => specParts false b k w hi (by rw [tx_size]; omega))
    have HE := Lib.hid (depTo_all b k)
    have HI := Lib.hid hi
    have hpl := parts_len (b := b) (k := k)
    clear hi
    go_enter Try.func43, Try.ntmps43
    go_wp2_with fail
    refine (HP.out _).mono ?_
    rintro e w1 ⟨v, rfl, hv, hb1⟩
    obtain ⟨g, cap, rfl, hg, hgl, hc, hx, _⟩ := strs_form hv
    have HX := Lib.hid hx
    clear hx hv
    rw [List.length_map] at hc ⊢
    obtain ⟨m, hm⟩ : ∃ m, (partsOf b k).length = m := ⟨_, rfl⟩
    rw [hm] at hc hpl HE ⊢
    have HM := Lib.hid hm
    clear hm
    go_wp2_with fail
    go_loopw [3, 5] (fun nn i wr => ∃ j : Nat, j ≤ m ∧ i = .int .i64 j ∧ nn = .int .i64 (depTo b k j : Int) ∧ Below w.heap.size w wr ∧ Below w1.heap.size w1 wr) (fun _ i _ => m - (intOf i).toNat)
    case atStart => exact ⟨0, Nat.zero_le _, rfl, by rw [depTo_zero]; rfl, hb1, Below.refl _ _⟩
    case round =>
      obtain ⟨j, hj, rfl, rfl, hb, hbj⟩ := hrel
      have hdl := depTo_le b k j
      by_cases hlt : j < m
      · obtain ⟨x, hxj⟩ : ∃ x, (partsOf b k)[j]? = some x := ⟨_, List.getElem?_eq_getElem (by rw [HM.out]; exact hlt)⟩
        have hcell : wr.cell? ⟨g, j, none⟩ = some (.string (bs (tx x.1 x.2))) := by rw [hbj.cell hgl]; exact HX.out j _ (by rw [List.getElem?_map, hxj]; rfl)
        have hps := part_size (List.mem_of_getElem? hxj)
        have hdx := dep_le x.2.size x.1 x.2 (Nat.le_refl _)
        have HC := Lib.hid (IH.out x.1 x.2 wr (by omega) (part_is HI.out (List.mem_of_getElem? hxj)) (by omega))
        have HST := Lib.hid (depTo_step hxj)
        have hmx := max_cast (depTo b k j) (dep x.1 x.2)
        clear hxj
        go_wp2_with fail
        refine (HC.out).mono ?_
        rintro e w3 ⟨rfl, hb3⟩
        go_wp2_with fail
        go_roundw
        case rel => exact ⟨j + 1, by omega, by go_num, by rw [HST.out]; go_num, hb.trans (hb3.mono hb.size), hbj.trans (hb3.mono hbj.size)⟩
        case measure => simp [intOf]; omega
      · obtain rfl : j = m := by omega
        go_wp2_with fail
        go_ret
        exact ⟨by rw [← HE.out]; rfl, hb⟩
set_option maxRecDepth 100000 in
theorem specDepthOf (s : ByteArray) (w : World) (hs : s.size ≤ 1048576) : Calls Try.prog 15 #[.string s] w fun e w' => e = .returned (.int .i64 (depV s)) ∧ Below w.heap.size w w' := by
  have hv := Lib.hid (fun w => specProgramValid s w hs)
  cases h : okS false 2 200 s with
  | false =>
    have H := Lib.hid (show depV s = -1 from progV_no _ _ h)
    rw [h] at hv
    clear h
    go_enter Try.func15, Try.ntmps15
    go_wp2_with fail
    refine (hv.out _).mono ?_
    rintro e w1 ⟨rfl, hb⟩
    go_wp2_with fail
    go_ret
    exact ⟨by rw [H.out]; rfl, hb⟩
  | true =>
    obtain ⟨hl, b, k, hi, rfl⟩ := okS_is h
    have H := Lib.hid (show depV (bs (tx b k)) = _ from progV_is _ _ hi h)
    rw [h] at hv
    rw [bs_size, tx_size] at hl
    have HC := Lib.hid (fun w => specDepth k.size b k w (Nat.le_refl _) hi (by omega))
    clear h hl hi
    go_enter Try.func15, Try.ntmps15
    go_wp2_with fail
    refine (hv.out _).mono ?_
    rintro e w1 ⟨rfl, hb⟩
    go_wp2_with fail
    refine (HC.out _).mono ?_
    rintro e w2 ⟨rfl, hb2⟩
    go_wp2_with fail
    go_ret
    exact ⟨by rw [H.out]; rfl, grew hb hb2⟩
theorem lawDepthOf (s : ByteArray) (w : World) (hs : s.size ≤ maxLen) : Calls Try.prog 3 #[.string s] w fun e w' => e = .returned (.bool true) ∧ Below w.heap.size w w' := by
  by_cases hbig : s.size ≤ 1048576
  · have h1 : (s.size : Int) ≤ 1048576 := by omega
    obtain ⟨r, hr⟩ : ∃ r, depV s = r := ⟨_, rfl⟩
    have HA := Lib.hid (fun w => specDepthOf s w hbig)
    have HB := Lib.hid (fun w => implDepthOf s w hbig)
    rw [hr] at HA HB
    clear hr
    go_enter Try.func3, Try.ntmps3
    go_wp2_with (first
        | (go_at_call 15; refine (HA.out _).mono ?_; rintro e w1 ⟨rfl, hb1⟩)
        | (go_at_call 16; refine (HB.out _).mono ?_; rintro e w2 ⟨rfl, hb2⟩))
    go_ret
    exact ⟨rfl, grew hb1 hb2⟩
  · have h1 : (1048576 : Int) < (s.size : Int) := by omega
    go_enter Try.func3, Try.ntmps3
    go_wp2_with fail
    go_ret
    exact ⟨rfl, Below.refl _ _⟩
end Go.Proofs.Ytialodkhckaklaa.Dp
