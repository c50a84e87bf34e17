/- Contracts and laws: LoopCount, IsPlain. -/
import Derived.Test.YtialodkhckaklaaHeads
import Derived.Test.YtialodkhckaklaaShelf
namespace Go.Proofs.Ytialodkhckaklaa.Kn
open Go.RowKit Go.Deep Go.Proofs.Ytialodkhckaklaa.Pl Go.Proofs.Ytialodkhckaklaa.Bi Go.Proofs.Ytialodkhckaklaa.Fi Go.Proofs.Ytialodkhckaklaa.Ed Go.Proofs.Ytialodkhckaklaa.Ps Go.Proofs.Ytialodkhckaklaa.Sw Go.Proofs.Ytialodkhckaklaa.Hd Go.Proofs.Ytialodkhckaklaa.Pp Go.Proofs.Ytialodkhckaklaa.Ea Go.Proofs.Ytialodkhckaklaa.Sz Go.Proofs.Ytialodkhckaklaa.Hs
set_option linter.unusedVariables false

/-- Is a statement's letter among these? -/
def among (ops : ByteArray) (x : UInt8 × F) : Bool := decide (0 ≤ Lib.indexByte ops.data.toList x.1)
/-- The letters in a block, the number in the next one. -/
def cnt2 (N : Nat) (ops : ByteArray) (done : List (UInt8 × F)) (w : World) : Prop := w.cell? ⟨N, 0, none⟩ = some (.string ops) ∧ cnt (N + 1) (among ops) done w
theorem cnt_no {N : Nat} {f : UInt8 × F → Bool} {done : List (UInt8 × F)} {w : World} {x : UInt8 × F} (h : cnt N f done w) (hx : f x = false) : cnt N f (done ++ [x]) w := by
  refine ⟨?_, h.2⟩
  rw [h.1, List.filter_append]
  simp [hx]
theorem cnt_drewN {N : Nat} {f : UInt8 × F → Bool} {done : List (UInt8 × F)} {w : World} (h : cnt N f done w) (q : Nat) : cnt N f done (w.drewN q) := h
theorem stepCount (N M : Nat) (ops : ByteArray) (wide : Bool) (hM : M ≤ 2000) : Hid (∀ (b : UInt8) (k : F) (p : Nat) (w : World) (done : List (UInt8 × F)), Is wide 2 b k → done.length + (k.size + 1) ≤ M → inW (fun x => x < N) w (.node b k .nil) [p] → cnt2 N ops done w → N ≤ w.heap.size →
      Calls Try.prog 73 (#[.pointer (some ⟨p, 0, none⟩)] ++ #[.pointer (some ⟨N, 0, none⟩), .pointer (some ⟨N + 1, 0, none⟩)]) w fun e w' => e = .returned (.tuple #[]) ∧ cnt2 N ops (done ++ [(b, k)]) w' ∧ Below N w w') := Lib.hid (by
  intro b k p w done hi hd hT hI hN
  have h0 : w.cell? ⟨p, 0, none⟩ = some (.int .u8 (b.toNat : Int)) := hT.2.1
  have c0 := hI.1
  have hc := hI.2.1
  have hf := hI.2.2.1
  have hl : (done.filter (among ops)).length ≤ done.length := List.length_filter_le _ _
  have HIB := Lib.hid (fun q => (Try.strings_IndexByte ops (b.toNat : Int) (w.drewN q)))
  obtain ⟨iv, hiv⟩ : ∃ iv, Lib.indexByte ops.data.toList (b.toNat : Int).toNat.toUInt8 = iv := ⟨_, rfl⟩
  have hbb : (b.toNat : Int).toNat.toUInt8 = b := by simp
  rw [hiv] at HIB
  rw [hbb] at hiv
  obtain ⟨c, hcc⟩ : ∃ c, (done.filter (among ops)).length = c := ⟨_, rfl⟩
  have HI := Lib.hid hI
  rw [hcc] at hc hl
  have HCC := Lib.hid hcc
  clear hT hI hi hcc hbb
  by_cases hq : 0 ≤ iv
  · have HX := Lib.hid (show among ops (b, k) = true by simp [among, hiv, hq])
    clear hiv
    go_enter Try.func73, Try.ntmps73
    go_wp2_with fail
    go_quiet (first | (go_at_call 74; exact Calls.quiet_of_same (HIB.out _)))
    go_wp2_with fail
    exact bodyPost_end (v := .tuple #[]) (by simp [results, Try.results73, go_sem]) rfl ⟨rfl, ⟨(World.cell?_setCell_other _ _ _ _ (by simp)).trans HI.out.1, cnt_set (cnt_drewN HI.out.2 _) (by rw [HCC.out]) HX.out⟩, (below_drewN (Below.refl _ _) _).setCell (p := ⟨N + 1, 0, none⟩) (by show N ≤ N + 1; omega) _⟩
  · have HX := Lib.hid (show among ops (b, k) = false by simp [among, hiv, hq])
    have hq' : iv < 0 := by omega
    clear hiv
    go_enter Try.func73, Try.ntmps73
    go_wp2_with fail
    go_quiet (first | (go_at_call 74; exact Calls.quiet_of_same (HIB.out _)))
    go_wp2_with fail
    exact bodyPost_end (v := .tuple #[]) (by simp [results, Try.results73, go_sem]) rfl ⟨rfl, ⟨HI.out.1, cnt_no (cnt_drewN HI.out.2 _) HX.out⟩, below_drewN (Below.refl _ _) _⟩)
set_option maxRecDepth 100000 in
theorem implCount (wide : Bool) (b : UInt8) (k : F) (p : Nat) (ops : ByteArray) (w : World) (hi : Is wide 2 b k) (hs : k.size ≤ 900) (hT : isT w p b k) :
    Calls Try.prog 50 #[.pointer (some ⟨p, 0, none⟩), .string ops] w fun e w' => e = .returned (.int .i64 (((pre b k).filter (among ops)).length : Int)) ∧ Below w.heap.size w w' := by
  have HC := Lib.hid (fun w' hT' hI' hN' => implEach w.heap.size 2000 (by omega) wide 73 #[.pointer (some ⟨w.heap.size, 0, none⟩), .pointer (some ⟨w.heap.size + 1, 0, none⟩)] (cnt2 w.heap.size ops) (fun _ _ => by simp [go_sem]) (stepCount _ _ ops _ (by omega)) k.size b k p w' [] (Nat.le_refl _) hi (by simp; omega) hT' hI' hN')
  have HT := Lib.hid (inW_lt hT)
  clear hT hi
  go_enter Try.func50, Try.ntmps50
  go_wp2_with fail
  have h1 : (w.alloc (.cells #[.string ops] 9)).heap.size = w.heap.size + 1 := by simp
  have hN := cnt_new (among ops) (w.alloc (.cells #[.string ops] 9)) 3
  rw [h1] at hN
  have hbel : Below w.heap.size w ((w.alloc (.cells #[.string ops] 9)).alloc (.cells #[.int .i64 0] 3)) := ((Below.refl _ w).alloc (Nat.le_refl _) _).alloc (by simp) _
  refine (HC.out _ (inW_stays (S' := fun x => x < w.heap.size) (fun y hy _ => ⟨hy.2, hbel.block y hy.2⟩) HT.out) ⟨by simp [World.cell?_alloc_at, World.cell?_alloc_past], hN⟩ (by simp; omega)).mono ?_
  rintro e w2 ⟨rfl, ⟨_, c2, _⟩, hb2⟩
  have HB := Lib.hid (hbel.trans hb2)
  clear hbel hb2 hN
  rw [List.nil_append] at c2
  go_wp2_with fail
  go_ret
  exact ⟨rfl, HB.out⟩
/-- What the functions answer. -/
def loopV (s : ByteArray) : Int := progV false 200 (fun b k => (((pre b k).filter (among ⟨#[64]⟩)).length : Int)) (-1) s
def plainV (s : ByteArray) : Bool := progV false 200 (fun b k => decide (((pre b k).filter (among ⟨#[47, 126]⟩)).length = 0)) false s
theorem among_loop (x : UInt8 × F) : among ⟨#[64]⟩ x = decide (x.1.toNat = 64) := by
  unfold among
  by_cases h : x.1 = 64
  · rw [h]; decide
  · have h1 : ((64 : UInt8) == x.1) = false := beq_eq_false_iff_ne.2 (Ne.symm h)
    have h2 : ¬ x.1.toNat = 64 := fun e => h (UInt8.toNat_inj.1 (by rw [e]; rfl))
    simp [Lib.indexByte, h1, h2]
theorem among_plain (x : UInt8 × F) : among ⟨#[47, 126]⟩ x = (decide (x.1 = 47) || decide (x.1 = 126)) := by
  unfold among
  by_cases h : x.1 = 47
  · rw [h]; decide
  · by_cases h' : x.1 = 126
    · rw [h']; decide
    · have h1 : ((47 : UInt8) == x.1) = false := beq_eq_false_iff_ne.2 (Ne.symm h)
      have h2 : ((126 : UInt8) == x.1) = false := beq_eq_false_iff_ne.2 (Ne.symm h')
      simp [Lib.indexByte, h1, h2, h, h']
theorem index_neg (l : List UInt8) (c : UInt8) : Lib.indexByte l c < 0 ↔ c ∉ l := by
  have h1 := index_range l c
  have h2 := index_count l c
  rw [List.count_eq_zero] at h2
  constructor
  · intro h
    exact h2.1 (by rcases h1 with h1 | h1 <;> omega)
  · intro h
    have := h2.2 h
    omega
theorem plain_two (l : List (UInt8 × F)) : decide ((l.filter (among ⟨#[47, 126]⟩)).length = 0) = (decide (Lib.indexByte (kindsL l) 47 < 0) && decide (Lib.indexByte (kindsL l) 126 < 0)) := by
  rw [Bool.eq_iff_iff]
  simp only [Bool.and_eq_true, decide_eq_true_eq, index_neg, List.length_eq_zero_iff, List.filter_eq_nil_iff, among_plain, Bool.or_eq_true, kindsL, List.mem_map, not_or, not_exists, not_and]
  exact ⟨fun h => ⟨fun x hx => (h x hx).1, fun x hx => (h x hx).2⟩, fun h x hx => ⟨h.1 x hx, h.2 x hx⟩⟩
/-- The loops among the first so many statements. -/
def loopTo (l : List (UInt8 × F)) (i : Nat) : Nat := ((l.take i).filter (among ⟨#[64]⟩)).length
theorem loopTo_le (l : List (UInt8 × F)) (i : Nat) : loopTo l i ≤ l.length := by
  unfold loopTo
  have h1 := List.length_filter_le (among ⟨#[64]⟩) (l.take i)
  have h2 := List.length_take_le' i l
  omega
theorem loopTo_all (l : List (UInt8 × F)) : loopTo l l.length = (l.filter (among ⟨#[64]⟩)).length := by
  unfold loopTo
  rw [List.take_of_length_le (Nat.le_refl _)]
theorem loopTo_step {l : List (UInt8 × F)} {i : Nat} {x : UInt8 × F} (h : l[i]? = some x) : loopTo l (i + 1) = loopTo l i + if x.1.toNat = 64 then 1 else 0 := by
  unfold loopTo
  rw [List.take_add_one, h, List.filter_append]
  by_cases hx : x.1.toNat = 64
  · simp [among_loop, hx]
  · simp [among_loop, hx]
theorem kinds_at (l : List (UInt8 × F)) (i : Nat) (h : i < (bs (kindsL l)).size) : ∃ x, l[i]? = some x ∧ (bs (kindsL l))[i] = x.1 := by
  have hl : i < l.length := by rw [bs_size, kindsL, List.length_map] at h; exact h
  refine ⟨l[i], List.getElem?_eq_getElem hl, ?_⟩
  have h1 := byte_at (bs (kindsL l)) i h
  rw [bs_list, show (kindsL l)[i]? = some l[i].1 by simp [kindsL, hl]] at h1
  exact (Option.some.inj h1).symm
theorem implLoopCount (s : ByteArray) (w : World) (hs : s.size ≤ 1048576) : Calls Try.prog 22 #[.string s] w fun e w' => e = .returned (.int .i64 (loopV s)) ∧ Below w.heap.size w w' := by
  have hp := Lib.hid (implParseProg s w hs)
  go_enter Try.func22, Try.ntmps22
  go_wp2_with fail
  refine (hp.out).mono ?_
  rintro e w1 (⟨h, rfl, hb⟩ | ⟨b, k, p, h, hi, rfl, rfl, hT, hb⟩)
  · have H := Lib.hid (show loopV s = -1 from progV_no _ _ h)
    clear h
    go_wp2_with fail
    go_ret
    exact ⟨by rw [H.out]; rfl, hb⟩
  · have H := Lib.hid (show loopV (bs (tx b k)) = _ from progV_is _ _ hi h)
    have hl := (okS_is h).1
    rw [bs_size, tx_size] at hl
    have HC := Lib.hid (implCount false b k p ⟨#[64]⟩ w1 hi (by omega) hT)
    clear h hT hi hl
    go_wp2_with fail
    refine (HC.out).mono ?_
    rintro e w2 ⟨rfl, hb2⟩
    go_wp2_with fail
    go_ret
    exact ⟨by rw [H.out]; rfl, grew hb hb2⟩
theorem implIsPlain (s : ByteArray) (w : World) (hs : s.size ≤ 1048576) : Calls Try.prog 20 #[.string s] w fun e w' => e = .returned (.bool (plainV s)) ∧ Below w.heap.size w w' := by
  have hp := Lib.hid (implParseProg s w hs)
  go_enter Try.func20, Try.ntmps20
  go_wp2_with fail
  refine (hp.out).mono ?_
  rintro e w1 (⟨h, rfl, hb⟩ | ⟨b, k, p, h, hi, rfl, rfl, hT, hb⟩)
  · have H := Lib.hid (show plainV s = false from progV_no _ _ h)
    clear h
    go_wp2_with fail
    go_ret
    exact ⟨by rw [H.out]; rfl, hb⟩
  · have H := Lib.hid (show plainV (bs (tx b k)) = _ from progV_is _ _ hi h)
    have hl := (okS_is h).1
    rw [bs_size, tx_size] at hl
    have HC := Lib.hid (implCount false b k p ⟨#[47, 126]⟩ w1 hi (by omega) hT)
    obtain ⟨c, hc⟩ : ∃ c, ((pre b k).filter (among ⟨#[47, 126]⟩)).length = c := ⟨_, rfl⟩
    rw [hc] at HC H
    clear h hT hi hl hc
    by_cases hc0 : c = 0
    · subst hc0
      go_wp2_with fail
      refine (HC.out).mono ?_
      rintro e w2 ⟨rfl, hb2⟩
      go_wp2_with fail
      go_ret
      exact ⟨by rw [H.out]; rfl, grew hb hb2⟩
    · have g : ((c : Int) == 0) = false := by simp; omega
      have HD := Lib.hid (show decide (c = 0) = false by simp [hc0])
      clear hc0
      go_wp2_with fail
      refine (HC.out).mono ?_
      rintro e w2 ⟨rfl, hb2⟩
      go_wp2_with fail
      go_ret
      exact ⟨by rw [H.out, HD.out]; rfl, grew hb hb2⟩
set_option maxRecDepth 100000 in
set_option maxHeartbeats 2000000 in
theorem specLoopCount (s : ByteArray) (w : World) (hs : s.size ≤ 1048576) : Calls Try.prog 21 #[.string s] w fun e w' => e = .returned (.int .i64 (loopV s)) ∧ Below w.heap.size w w' := by
  have hv := Lib.hid (fun w => specProgramValid s w hs)
  cases h : okS false 2 200 s with
  | false =>
    have H := Lib.hid (show loopV s = -1 from progV_no _ _ h)
    rw [h] at hv
    clear h
    go_enter Try.func21, Try.ntmps21
    go_wp2_with fail
    refine (hv.out _).mono ?_
    rintro e w1 ⟨rfl, hb⟩
    go_wp2_with fail
    go_ret
    exact ⟨by rw [H.out]; rfl, hb⟩
  | true =>
    obtain ⟨hl, b, k, hi, rfl⟩ := okS_is h
    have H := Lib.hid (show loopV (bs (tx b k)) = _ from progV_is _ _ hi h)
    rw [h] at hv
    rw [bs_size, tx_size] at hl
    have HC := Lib.hid (fun w => specHeads false (k.size + 1) b k w (by omega) hi (by omega))
    have hpl := pre_len b k
    obtain ⟨L, hL⟩ : ∃ L, pre b k = L := ⟨_, rfl⟩
    rw [hL] at HC H hpl
    have hz : (bs (kindsL L)).size = L.length := by rw [bs_size, kindsL, List.length_map]
    have HK := Lib.hid (kinds_at L)
    have HLA := Lib.hid (loopTo_all L)
    obtain ⟨K, hK⟩ : ∃ K, bs (kindsL L) = K := ⟨_, rfl⟩
    rw [hK] at HC hz HK
    clear h hi hL hK
    go_enter Try.func21, Try.ntmps21
    go_wp2_with fail
    refine (hv.out _).mono ?_
    rintro e w1 ⟨rfl, hb⟩
    go_wp2_with fail
    refine (HC.out _).mono ?_
    rintro e w2 ⟨v, rfl, _, hb2⟩
    go_wp2_with fail
    go_loop [3, 6] (fun nn i => ∃ j : Nat, j ≤ K.size ∧ i = .int .i64 j ∧ nn = .int .i64 (loopTo L j : Int)) (fun _ i => K.size - (intOf i).toNat)
    case atStart => exact ⟨0, Nat.zero_le _, rfl, rfl⟩
    case round =>
      obtain ⟨j, hj, rfl, rfl⟩ := hrel
      have hle := loopTo_le L j
      by_cases hlt : j < K.size
      · obtain ⟨x, hx, he⟩ := HK.out j hlt
        have HS := Lib.hid (loopTo_step hx)
        by_cases hq : K[j].toNat = 64
        · have g : ((K[j].toNat : Int) == 64) = true := by simp; omega
          have HS1 := Lib.hid (show loopTo L (j + 1) = loopTo L j + 1 by rw [HS.out, if_pos (by rw [← he]; exact hq)])
          clear hx he hq
          go_wp2_with fail
          go_round
          case rel => exact ⟨j + 1, by omega, by go_num, by rw [HS1.out]; go_num⟩
          case measure => simp [intOf]; omega
        · have g : ((K[j].toNat : Int) == 64) = false := by simp; omega
          have HS1 := Lib.hid (show loopTo L (j + 1) = loopTo L j by rw [HS.out, if_neg (by rw [← he]; exact hq)]; rfl)
          clear hx he hq
          go_wp2_with fail
          go_round
          case rel => exact ⟨j + 1, by omega, by go_num, by rw [HS1.out]⟩
          case measure => simp [intOf]; omega
      · obtain rfl : j = K.size := by omega
        have HR := Lib.hid (show loopTo L K.size = (L.filter (among ⟨#[64]⟩)).length by rw [hz, HLA.out])
        go_wp2_with fail
        go_ret
        exact ⟨by rw [H.out, ← HLA.out]; rfl, grew hb hb2⟩
theorem specPlain (b : UInt8) (k : F) (w : World) (hi : Is false 2 b k) (hs : k.size ≤ 900) : Calls Try.prog 49 #[.string (bs (tx b k)), .bool false] w fun e w' => e = .returned (.bool (decide (((pre b k).filter (among ⟨#[47, 126]⟩)).length = 0))) ∧ Below w.heap.size w w' := by
  have HC := Lib.hid (fun w => specHeads false (k.size + 1) b k w (by omega) hi hs)
  have hpl := pre_len b k
  obtain ⟨L, hL⟩ : ∃ L, pre b k = L := ⟨_, rfl⟩
  rw [hL] at HC hpl ⊢
  have hz : (bs (kindsL L)).size ≤ 1000 := by rw [bs_size, kindsL, List.length_map]; omega
  have hm : (bs (kindsL L)).size ≤ maxLen := by unfold maxLen; omega
  have HP := Lib.hid (plain_two L)
  have HF := Lib.hid (fun (c : UInt8) w => specFind (bs (kindsL L)) c w hm)
  rw [bs_list] at HF
  have F1 := Lib.hid (fun w => HF.out 47 w)
  have F2 := Lib.hid (fun w => HF.out 126 w)
  obtain ⟨i1, h1⟩ : ∃ i1, Lib.indexByte (kindsL L) 47 = i1 := ⟨_, rfl⟩
  obtain ⟨i2, h2⟩ : ∃ i2, Lib.indexByte (kindsL L) 126 = i2 := ⟨_, rfl⟩
  rw [h1] at HP F1
  rw [h2] at HP F2
  clear h1 h2 hL hi HF
  by_cases g1 : i1 < 0
  · by_cases g2 : i2 < 0
    · have HD := Lib.hid (show decide ((L.filter (among ⟨#[47, 126]⟩)).length = 0) = true by rw [HP.out]; simp [g1, g2])
      go_enter Try.func49, Try.ntmps49
      go_wp2_with fail
      refine (HC.out _).mono ?_
      rintro e w1 ⟨v, rfl, _, hb⟩
      go_wp2_with fail
      refine (F1.out _).mono ?_
      rintro e w2 ⟨rfl, rfl⟩
      go_wp2_with fail
      refine (F2.out _).mono ?_
      rintro e w3 ⟨rfl, rfl⟩
      go_wp2_with fail
      go_ret
      exact ⟨by rw [HD.out]; rfl, hb⟩
    · have HD := Lib.hid (show decide ((L.filter (among ⟨#[47, 126]⟩)).length = 0) = false by rw [HP.out]; simp [g2])
      have g2' : decide (i2 < 0) = false := by simp [g2]
      clear g2
      go_enter Try.func49, Try.ntmps49
      go_wp2_with fail
      refine (HC.out _).mono ?_
      rintro e w1 ⟨v, rfl, _, hb⟩
      go_wp2_with fail
      refine (F1.out _).mono ?_
      rintro e w2 ⟨rfl, rfl⟩
      go_wp2_with fail
      refine (F2.out _).mono ?_
      rintro e w3 ⟨rfl, rfl⟩
      go_wp2_with fail
      go_ret
      exact ⟨by rw [HD.out]; rfl, hb⟩
  · have HD := Lib.hid (show decide ((L.filter (among ⟨#[47, 126]⟩)).length = 0) = false by rw [HP.out]; simp [g1])
    have g1' : decide (i1 < 0) = false := by simp [g1]
    clear g1
    go_enter Try.func49, Try.ntmps49
    go_wp2_with fail
    refine (HC.out _).mono ?_
    rintro e w1 ⟨v, rfl, _, hb⟩
    go_wp2_with fail
    refine (F1.out _).mono ?_
    rintro e w2 ⟨rfl, rfl⟩
    go_wp2_with fail
    go_ret
    exact ⟨by rw [HD.out]; rfl, hb⟩
theorem specIsPlain (s : ByteArray) (w : World) (hs : s.size ≤ 1048576) : Calls Try.prog 19 #[.string s] w fun e w' => e = .returned (.bool (plainV s)) ∧ Below w.heap.size w w' := by
  have hv := Lib.hid (fun w => specProgramValid s w hs)
  cases h : okS false 2 200 s with
  | false =>
    have H := Lib.hid (show plainV s = false from progV_no _ _ h)
    rw [h] at hv
    clear h
    go_enter Try.func19, Try.ntmps19
    go_wp2_with fail
    refine (hv.out _).mono ?_
    rintro e w1 ⟨rfl, hb⟩
    go_wp2_with fail
    go_ret
    exact ⟨by rw [H.out]; rfl, hb⟩
  | true =>
    obtain ⟨hl, b, k, hi, rfl⟩ := okS_is h
    have H := Lib.hid (show plainV (bs (tx b k)) = _ from progV_is _ _ hi h)
    rw [h] at hv
    rw [bs_size, tx_size] at hl
    have HC := Lib.hid (fun w => specPlain b k w hi (by omega))
    obtain ⟨r, hr⟩ : ∃ r, decide (((pre b k).filter (among ⟨#[47, 126]⟩)).length = 0) = r := ⟨_, rfl⟩
    rw [hr] at HC H
    clear h hl hi hr
    go_enter Try.func19, Try.ntmps19
    go_wp2_with fail
    refine (hv.out _).mono ?_
    rintro e w1 ⟨rfl, hb⟩
    go_wp2_with fail
    refine (HC.out _).mono ?_
    rintro e w2 ⟨rfl, hb2⟩
    go_wp2_with fail
    go_ret
    exact ⟨by rw [H.out]; rfl, grew hb hb2⟩
theorem lawLoopCount (s : ByteArray) (w : World) (hs : s.size ≤ maxLen) : Calls Try.prog 6 #[.string s] w fun e w' => e = .returned (.bool true) ∧ Below w.heap.size w w' := by
  by_cases hbig : s.size ≤ 1048576
  · have h1 : (s.size : Int) ≤ 1048576 := by omega
    obtain ⟨r, hr⟩ : ∃ r, loopV s = r := ⟨_, rfl⟩
    have HA := Lib.hid (fun w => specLoopCount s w hbig)
    have HB := Lib.hid (fun w => implLoopCount s w hbig)
    rw [hr] at HA HB
    clear hr
    go_enter Try.func6, Try.ntmps6
    go_wp2_with (first
        | (go_at_call 21; refine (HA.out _).mono ?_; rintro e w1 ⟨rfl, hb1⟩)
        | (go_at_call 22; refine (HB.out _).mono ?_; rintro e w2 ⟨rfl, hb2⟩))
    go_ret
    exact ⟨rfl, grew hb1 hb2⟩
  · have h1 : (1048576 : Int) < (s.size : Int) := by omega
    go_enter Try.func6, Try.ntmps6
    go_wp2_with fail
    go_ret
    exact ⟨rfl, Below.refl _ _⟩
theorem lawIsPlain (s : ByteArray) (w : World) (hs : s.size ≤ maxLen) : Calls Try.prog 5 #[.string s] w fun e w' => e = .returned (.bool true) ∧ Below w.heap.size w w' := by
  by_cases hbig : s.size ≤ 1048576
  · have h1 : (s.size : Int) ≤ 1048576 := by omega
    obtain ⟨r, hr⟩ : ∃ r, plainV s = r := ⟨_, rfl⟩
    have HA := Lib.hid (fun w => specIsPlain s w hbig)
    have HB := Lib.hid (fun w => implIsPlain s w hbig)
    rw [hr] at HA HB
    clear hr
    cases r <;> (
    go_enter Try.func5, Try.ntmps5
    go_wp2_with (first
        | (go_at_call 19; refine (HA.out _).mono ?_; rintro e w1 ⟨rfl, hb1⟩)
        | (go_at_call 20; refine (HB.out _).mono ?_; rintro e w2 ⟨rfl, hb2⟩))
    go_ret
    exact ⟨rfl, grew hb1 hb2⟩)
  · have h1 : (1048576 : Int) < (s.size : Int) := by omega
    go_enter Try.func5, Try.ntmps5
    go_wp2_with fail
    go_ret
    exact ⟨rfl, Below.refl _ _⟩
end Go.Proofs.Ytialodkhckaklaa.Kn
