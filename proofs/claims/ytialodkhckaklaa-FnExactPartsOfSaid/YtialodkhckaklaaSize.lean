/- Contracts and laws: SizeOf, DepthOf. -/
import Derived.Test.YtialodkhckaklaaEach
namespace Go.Proofs.Ytialodkhckaklaa.Sz
open Go.RowKit Go.Deep Go.Proofs.Ytialodkhckaklaa.Pl Go.Proofs.Ytialodkhckaklaa.Bi Go.Proofs.Ytialodkhckaklaa.Fi Go.Proofs.Ytialodkhckaklaa.Ed Go.Proofs.Ytialodkhckaklaa.Ps Go.Proofs.Ytialodkhckaklaa.Sw Go.Proofs.Ytialodkhckaklaa.Hd Go.Proofs.Ytialodkhckaklaa.Pp Go.Proofs.Ytialodkhckaklaa.Ea
set_option linter.unusedVariables false

/-- What is told of a program's tree, and of a text that is none. -/
def progV {α : Type} (wide : Bool) (most : Nat) (f : UInt8 → F → α) (d : α) (s : ByteArray) : α := if okS wide 2 most s then (match P wide [2] s.data.toList with | some (.node b k _, _) => f b k | _ => d) else d
theorem progV_is {α : Type} {wide : Bool} {most : Nat} (f : UInt8 → F → α) (d : α) {b : UInt8} {k : F} (hi : Is wide 2 b k) (hok : okS wide 2 most (bs (tx b k)) = true) : progV wide most f d (bs (tx b k)) = f b k := by
  have := P_is hi []
  rw [List.append_nil] at this
  simp only [progV, hok, bs_list, this]; rfl
theorem progV_no {α : Type} {wide : Bool} {most : Nat} (f : UInt8 → F → α) (d : α) {s : ByteArray} (hok : okS wide 2 most s = false) : progV wide most f d s = d := by simp [progV, hok]
/-- A number in a block of its own: so many statements were seen. -/
def cnt (N : Nat) (f : UInt8 × F → Bool) (done : List (UInt8 × F)) (w : World) : Prop := w.cell? ⟨N, 0, none⟩ = some (.int .i64 ((done.filter f).length : Int)) ∧ w.frozen? ⟨N, 0, none⟩ = false ∧ N < w.heap.size
theorem cnt_set {N : Nat} {f : UInt8 × F → Bool} {done : List (UInt8 × F)} {w : World} {x : UInt8 × F} (h : cnt N f done w) {n : Int} (hn : n = ((done.filter f).length : Int) + 1) (hx : f x = true) : cnt N f (done ++ [x]) (w.setCell ⟨N, 0, none⟩ (.int .i64 n)) := by
  refine ⟨?_, ?_, ?_⟩
  · rw [World.cell?_setCell_same _ _ _ h.1, hn, List.filter_append]
    simp [hx]
  · rw [World.frozen?_setCell]; exact h.2.1
  · rw [size_set]; exact h.2.2
theorem cnt_new (f : UInt8 × F → Bool) (w : World) (t : TypeId) : cnt w.heap.size f [] (w.alloc (.cells #[.int .i64 0] t)) :=
  ⟨(World.cell?_alloc_at _ _ _ 0 rfl).trans rfl, by unfold World.frozen?; rw [blk_alloc_new]; rfl, by simp⟩
theorem filter_all : ∀ l : List (UInt8 × F), (l.filter fun _ => true) = l
  | [] => rfl
  | a :: l => by simp
theorem tx_size (b : UInt8) (k : F) : (tx b k).length = k.size + 1 := by rw [tx_len, F.length_text]
theorem stepSize (N M : Nat) (wide : Bool) (hM : M ≤ 2000) : Hid (∀ (b : UInt8) (k : F) (p : Nat) (w : World) (done : List (UInt8 × F)), Is wide 2 b k → done.length + (k.size + 1) ≤ M → inW (fun x => x < N) w (.node b k .nil) [p] → cnt N (fun _ => true) done w → N ≤ w.heap.size →
      Calls Try.prog 48 (#[.pointer (some ⟨p, 0, none⟩)] ++ #[.pointer (some ⟨N, 0, none⟩)]) w fun e w' => e = .returned (.tuple #[]) ∧ cnt N (fun _ => true) (done ++ [(b, k)]) w' ∧ Below N w w') := Lib.hid (by
  intro b k p w done hi hd hT hI hN
  have hc := hI.1
  have hf := hI.2.1
  have hl : (done.filter fun _ => true).length ≤ done.length := List.length_filter_le _ _
  obtain ⟨c, hcc⟩ : ∃ c, (done.filter fun _ => true).length = c := ⟨_, rfl⟩
  have HI := Lib.hid (fun (n : Int) hn => cnt_set (x := (b, k)) (n := n) hI hn rfl)
  rw [hcc] at hc hl HI
  have HB := Lib.hid (fun u => (Below.refl N w).setCell (p := ⟨N, 0, none⟩) (Nat.le_refl _) u)
  clear hi hT hI hcc
  go_enter Try.func48, Try.ntmps48
  go_wp2_with fail
  exact bodyPost_end (v := .tuple #[]) (by simp [results, Try.results48, go_sem]) rfl ⟨rfl, HI.out _ rfl, HB.out _⟩)
/-- What the function answers. -/
def sizeV (s : ByteArray) : Int := progV false 200 (fun b k => ((pre b k).length : Int)) (-1) s
set_option maxRecDepth 100000 in
theorem implSizeOf (s : ByteArray) (w : World) (hs : s.size ≤ 1048576) : Calls Try.prog 18 #[.string s] w fun e w' => e = .returned (.int .i64 (sizeV s)) ∧ Below w.heap.size w w' := by
  have hp := Lib.hid (implParseProg s w hs)
  go_enter Try.func18, Try.ntmps18
  go_wp2_with fail
  refine (hp.out).mono ?_
  rintro e w1 (⟨h, rfl, hb⟩ | ⟨b, k, p, h, hi, rfl, rfl, hT, hb⟩)
  · have H := Lib.hid (show sizeV s = -1 from progV_no _ _ h)
    clear h
    go_wp2_with fail
    go_ret
    exact ⟨by rw [H.out]; rfl, hb⟩
  · have H := Lib.hid (show sizeV (bs (tx b k)) = _ from progV_is _ _ hi h)
    have hl := (okS_is h).1
    rw [bs_size, tx_size] at hl
    have HC := Lib.hid (fun w' hT' hI' hN' => implEach w1.heap.size 201 (by omega) false 48 #[.pointer (some ⟨w1.heap.size, 0, none⟩)] (cnt w1.heap.size fun _ => true) (fun _ _ => by simp [go_sem]) (stepSize _ _ _ (by omega)) k.size b k p w' [] (Nat.le_refl _) hi (by simp; omega) hT' hI' hN')
    have HT := Lib.hid (inW_lt hT)
    clear h hT hi hl
    go_wp2_with fail
    refine (HC.out _ (inW_stays (S' := fun x => x < w1.heap.size) (fun y hy _ => ⟨hy.2, ((Below.refl _ w1).alloc (Nat.le_refl _) _).block y hy.2⟩) HT.out) (cnt_new _ _ _) (by simp)).mono ?_
    rintro e w2 ⟨rfl, ⟨c2, _, _⟩, hb2⟩
    have HB := Lib.hid (hb.trans (((Below.refl _ w1).alloc (Nat.le_refl _) _).trans (hb2.mono (Nat.le_refl _)) |>.mono hb.size))
    clear hb2
    rw [List.nil_append, filter_all] at c2
    go_wp2_with fail
    go_ret
    exact ⟨by rw [H.out]; rfl, HB.out⟩
set_option maxRecDepth 100000 in
set_option maxHeartbeats 4000000 in
theorem specSize (wide : Bool) (n : Nat) : ∀ (b : UInt8) (k : F) (w : World), k.size ≤ n → Is wide 2 b k → k.size ≤ 900 →
    Calls Try.prog 46 #[.string (bs (tx b k)), .bool wide] w fun e w' => e = .returned (.int .i64 ((pre b k).length : Int)) ∧ Below w.heap.size w w' := by
  induction n with
  | zero =>
    intro b k w hk hi hs
    have he : partsOf b k = [] := List.eq_nil_of_length_eq_zero (by have := parts_len (b := b) (k := k); omega)
    have HP := Lib.hid (fun w => specParts wide b k w hi (by rw [tx_size]; omega))
    have HE := Lib.hid (show (pre b k).length = 1 by rw [pre_eq, he]; rfl)
    rw [he] at HP
    clear he hi
    go_enter Try.func46, Try.ntmps46
    go_wp2_with fail
    refine (HP.out _).mono ?_
    rintro e w1 ⟨v, rfl, hv, hb1⟩
    obtain ⟨g, cap, rfl, _⟩ := strs_form hv
    clear hv
    simp only [List.map_nil, List.length_nil]
    go_wp2_with fail
    refine wp_loop_rounds 1 ?_
    rw [rounds_succ]
    go_wp2_with fail
    go_ret
    exact ⟨by rw [HE.out]; rfl, hb1⟩
  | succ n ih =>
    intro b k w hk hi hs
    have IH := Lib.hid ih
    clear ih
    have HP := Lib.hid (fun w => specParts wide b k w hi (by rw [tx_size]; omega))
    have HE := Lib.hid (preTo_all b k)
    have HI := Lib.hid hi
    have hpl := parts_len (b := b) (k := k)
    clear hi
    go_enter Try.func46, Try.ntmps46
    go_wp2_with fail
    refine (HP.out _).mono ?_
    rintro e w1 ⟨v, rfl, hv, hb1⟩
    obtain ⟨g, cap, rfl, hg, hgl, hc, hx, _⟩ := strs_form hv
    have HX := Lib.hid hx
    clear hx hv
    rw [List.length_map] at hc ⊢
    obtain ⟨m, hm⟩ : ∃ m, (partsOf b k).length = m := ⟨_, rfl⟩
    rw [hm] at hc hpl HE ⊢
    have HM := Lib.hid hm
    clear hm
    go_wp2_with fail
    go_loopw [5, 7] (fun nn i wr => ∃ j : Nat, j ≤ m ∧ i = .int .i64 j ∧ nn = .int .i64 ((1 + (preTo b k j).length : Nat) : Int) ∧ Below w.heap.size w wr ∧ Below w1.heap.size w1 wr) (fun _ i _ => m - (intOf i).toNat)
    case atStart => exact ⟨0, Nat.zero_le _, rfl, by rw [preTo_zero]; rfl, hb1, Below.refl _ _⟩
    case round =>
      obtain ⟨j, hj, rfl, rfl, hb, hbj⟩ := hrel
      by_cases hlt : j < m
      · obtain ⟨x, hxj⟩ : ∃ x, (partsOf b k)[j]? = some x := ⟨_, List.getElem?_eq_getElem (by rw [HM.out]; exact hlt)⟩
        have hcell : wr.cell? ⟨g, j, none⟩ = some (.string (bs (tx x.1 x.2))) := by rw [hbj.cell hgl]; exact HX.out j _ (by rw [List.getElem?_map, hxj]; rfl)
        have hps := part_size (List.mem_of_getElem? hxj)
        have hlen := preTo_len hxj
        have hpre := pre_len x.1 x.2
        have HC := Lib.hid (IH.out x.1 x.2 wr (by omega) (part_is HI.out (List.mem_of_getElem? hxj)) (by omega))
        have HST := Lib.hid (congrArg List.length (preTo_step hxj))
        clear hxj
        go_wp2_with fail
        refine (HC.out).mono ?_
        rintro e w3 ⟨rfl, hb3⟩
        go_wp2_with fail
        go_roundw
        case rel => exact ⟨j + 1, by omega, by go_num, by rw [HST.out, List.length_append]; go_num, hb.trans (hb3.mono hb.size), hbj.trans (hb3.mono hbj.size)⟩
        case measure => simp [intOf]; omega
      · obtain rfl : j = m := by omega
        have HL := Lib.hid (show 1 + (preTo b k j).length = (pre b k).length by rw [← HE.out]; simp; omega)
        go_wp2_with fail
        go_ret
        exact ⟨by rw [← HL.out]; rfl, hb⟩
set_option maxRecDepth 100000 in
theorem specSizeOf (s : ByteArray) (w : World) (hs : s.size ≤ 1048576) : Calls Try.prog 17 #[.string s] w fun e w' => e = .returned (.int .i64 (sizeV s)) ∧ Below w.heap.size w w' := by
  have hv := Lib.hid (fun w => specProgramValid s w hs)
  cases h : okS false 2 200 s with
  | false =>
    have H := Lib.hid (show sizeV s = -1 from progV_no _ _ h)
    rw [h] at hv
    clear h
    go_enter Try.func17, Try.ntmps17
    go_wp2_with fail
    refine (hv.out _).mono ?_
    rintro e w1 ⟨rfl, hb⟩
    go_wp2_with fail
    go_ret
    exact ⟨by rw [H.out]; rfl, hb⟩
  | true =>
    obtain ⟨hl, b, k, hi, rfl⟩ := okS_is h
    have H := Lib.hid (show sizeV (bs (tx b k)) = _ from progV_is _ _ hi h)
    rw [h] at hv
    rw [bs_size, tx_size] at hl
    have HC := Lib.hid (fun w => specSize false k.size b k w (Nat.le_refl _) hi (by omega))
    clear h hl hi
    go_enter Try.func17, Try.ntmps17
    go_wp2_with fail
    refine (hv.out _).mono ?_
    rintro e w1 ⟨rfl, hb⟩
    go_wp2_with fail
    refine (HC.out _).mono ?_
    rintro e w2 ⟨rfl, hb2⟩
    go_wp2_with fail
    go_ret
    exact ⟨by rw [H.out]; rfl, grew hb hb2⟩
theorem lawSizeOf (s : ByteArray) (w : World) (hs : s.size ≤ maxLen) : Calls Try.prog 4 #[.string s] w fun e w' => e = .returned (.bool true) ∧ Below w.heap.size w w' := by
  by_cases hbig : s.size ≤ 1048576
  · have h1 : (s.size : Int) ≤ 1048576 := by omega
    obtain ⟨r, hr⟩ : ∃ r, sizeV s = r := ⟨_, rfl⟩
    have HA := Lib.hid (fun w => specSizeOf s w hbig)
    have HB := Lib.hid (fun w => implSizeOf s w hbig)
    rw [hr] at HA HB
    clear hr
    go_enter Try.func4, Try.ntmps4
    go_wp2_with (first
        | (go_at_call 17; refine (HA.out _).mono ?_; rintro e w1 ⟨rfl, hb1⟩)
        | (go_at_call 18; refine (HB.out _).mono ?_; rintro e w2 ⟨rfl, hb2⟩))
    go_ret
    exact ⟨rfl, grew hb1 hb2⟩
  · have h1 : (1048576 : Int) < (s.size : Int) := by omega
    go_enter Try.func4, Try.ntmps4
    go_wp2_with fail
    go_ret
    exact ⟨rfl, Below.refl _ _⟩
end Go.Proofs.Ytialodkhckaklaa.Sz
