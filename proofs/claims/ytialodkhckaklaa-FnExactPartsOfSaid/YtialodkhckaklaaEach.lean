/- Contract: each: a function value is called at a statement and at all statements of its parts. -/
import Derived.Test.YtialodkhckaklaaParts
namespace Go.Proofs.Ytialodkhckaklaa.Ea
open Go.RowKit Go.Deep Go.Proofs.Ytialodkhckaklaa.Pl Go.Proofs.Ytialodkhckaklaa.Bi Go.Proofs.Ytialodkhckaklaa.Fi Go.Proofs.Ytialodkhckaklaa.Ed Go.Proofs.Ytialodkhckaklaa.Ps Go.Proofs.Ytialodkhckaklaa.Sw Go.Proofs.Ytialodkhckaklaa.Hd Go.Proofs.Ytialodkhckaklaa.Pp
set_option linter.unusedVariables false

/-! ### Plain -/
/-- The statements of the first so many parts. -/
def preTo (b : UInt8) (k : F) (i : Nat) : List (UInt8 × F) := (((partsOf b k).take i).map fun x => pre x.1 x.2).flatten
theorem preTo_zero (b : UInt8) (k : F) : preTo b k 0 = [] := by simp [preTo]
theorem preTo_step {b : UInt8} {k : F} {i : Nat} {x : UInt8 × F} (h : (partsOf b k)[i]? = some x) : preTo b k (i + 1) = preTo b k i ++ pre x.1 x.2 := by
  unfold preTo
  rw [List.take_add_one, h]
  simp
theorem preTo_all (b : UInt8) (k : F) : (b, k) :: preTo b k (partsOf b k).length = pre b k := by
  rw [pre_eq]
  unfold preTo
  rw [List.take_of_length_le (Nat.le_refl _)]
theorem members_sum : ∀ t : F, (t.members.map fun x => x.2.size + 1).sum = t.size
  | .nil => rfl
  | .node b k n => by simp [F.members, F.size, members_sum n]; omega
theorem sum_tail_le : ∀ l : List Nat, l.tail.sum ≤ l.sum
  | [] => Nat.le_refl _
  | a :: l => by simp
theorem parts_sum (b : UInt8) (k : F) : ((partsOf b k).map fun x => x.2.size + 1).sum ≤ k.size := by
  unfold partsOf partsL
  split
  · rw [members_sum]; exact Nat.le_refl _
  · split
    · rw [List.map_tail]
      exact Nat.le_trans (sum_tail_le _) (Nat.le_of_eq (members_sum k))
    · simp
theorem sum_take_le : ∀ (l : List Nat) (i : Nat), (l.take i).sum ≤ l.sum
  | [], i => by simp
  | a :: l, 0 => by simp
  | a :: l, i + 1 => by simp only [List.take_succ_cons, List.sum_cons]; have := sum_take_le l i; omega
theorem pre_len_aux (n : Nat) : ∀ (b : UInt8) (k : F), k.size ≤ n → (pre b k).length ≤ k.size + 1 := by
  induction n with
  | zero =>
    intro b k hk
    have h := parts_len (b := b) (k := k)
    have : partsOf b k = [] := List.eq_nil_of_length_eq_zero (by omega)
    rw [pre_eq, this]; simp
  | succ n ih =>
    intro b k hk
    rw [pre_eq]
    simp only [List.length_cons, List.length_flatten, List.map_map]
    have h1 : ((partsOf b k).map (List.length ∘ fun x => pre x.1 x.2)).sum ≤ ((partsOf b k).map fun x => x.2.size + 1).sum := by
      have hm : ∀ x ∈ partsOf b k, (pre x.1 x.2).length ≤ x.2.size + 1 := fun x hx => ih x.1 x.2 (by have := part_size hx; omega)
      generalize partsOf b k = L at hm
      induction L with
      | nil => simp
      | cons a L ihL =>
        simp only [List.map_cons, List.sum_cons, Function.comp]
        have h2 := hm a (by simp)
        have h3 := ihL fun x hx => hm x (by simp [hx])
        omega
    have h2 := parts_sum b k
    omega
theorem pre_len (b : UInt8) (k : F) : (pre b k).length ≤ k.size + 1 := pre_len_aux k.size b k (Nat.le_refl _)
theorem preTo_len {b : UInt8} {k : F} {i : Nat} {x : UInt8 × F} (h : (partsOf b k)[i]? = some x) : (preTo b k i).length + (x.2.size + 1) ≤ k.size := by
  have h1 := parts_sum b k
  have h2 := sum_take_le ((partsOf b k).map fun x => x.2.size + 1) (i + 1)
  rw [← List.map_take, List.take_add_one, h] at h2
  simp only [Option.toList_some, List.map_append, List.map_cons, List.map_nil, List.sum_append, List.sum_cons, List.sum_nil] at h2
  have h3 : (preTo b k i).length ≤ (((partsOf b k).take i).map fun x => x.2.size + 1).sum := by
    unfold preTo
    generalize (partsOf b k).take i = L
    induction L with
    | nil => simp
    | cons a L ih =>
      simp only [List.map_cons, List.flatten_cons, List.length_append, List.sum_cons]
      have := pre_len a.1 a.2
      omega
  omega

set_option maxRecDepth 100000 in
set_option maxHeartbeats 4000000 in
theorem implEach (N M : Nat) (hMM : M ≤ 100000) (wide : Bool) (K : Nat) (cap : Array Value) (Inv : List (UInt8 × F) → World → Prop)
    (hcall : ∀ (a : Array Value) (W : World), (callFunc K a).run Try.prog W = .ok (.enter K a) W)
    (hstep : Hid (∀ (b : UInt8) (k : F) (p : Nat) (w : World) (done : List (UInt8 × F)), Is wide 2 b k → done.length + (k.size + 1) ≤ M → inW (fun x => x < N) w (.node b k .nil) [p] → Inv done w → N ≤ w.heap.size →
      Calls Try.prog K (#[.pointer (some ⟨p, 0, none⟩)] ++ cap) w fun e w' => e = .returned (.tuple #[]) ∧ Inv (done ++ [(b, k)]) w' ∧ Below N w w')) (n : Nat) :
    ∀ (b : UInt8) (k : F) (p : Nat) (w : World) (done : List (UInt8 × F)), k.size ≤ n → Is wide 2 b k → done.length + (k.size + 1) ≤ M → inW (fun x => x < N) w (.node b k .nil) [p] → Inv done w → N ≤ w.heap.size →
      Calls Try.prog 47 #[.pointer (some ⟨p, 0, none⟩), .func (.func K) #[] cap] w fun e w' => e = .returned (.tuple #[]) ∧ Inv (done ++ pre b k) w' ∧ Below N w w' := by
  induction n with
  | zero =>
    intro b k p w done hk hi hM hT hI hN
    have h1 := parts_len (b := b) (k := k)
    have he : partsOf b k = [] := List.eq_nil_of_length_eq_zero (by omega)
    have HS := Lib.hid (hstep.out b k p w done hi (by omega) hT hI hN)
    have HPa := Lib.hid (fun w hT => implParts (fun x => x < N) wide b k p w hi hT)
    have HT := Lib.hid hT
    have HE := Lib.hid (show pre b k = [(b, k)] by rw [pre_eq, he]; rfl)
    rw [he] at HPa
    clear hstep hT hI hi he h1 hk hM
    go_enter Try.func47, Try.ntmps47
    go_wp2_with fail
    refine (HS.out).mono ?_
    rintro e w1 ⟨rfl, hI1, hb1⟩
    have HT1 := Lib.hid (inW_stays (S' := fun x => x < N) (fun y hy _ => ⟨hy, hb1.block y hy⟩) HT.out)
    have HI1 := Lib.hid hI1
    clear hI1
    go_wp2_with fail
    refine (HPa.out _ HT1.out).mono ?_
    rintro e w2 ⟨⟨v, rfl, hv⟩, rfl⟩
    rcases hv with ⟨_, rfl⟩ | ⟨g, o, cp, rfl, _⟩
    · go_wp2_with fail
      refine wp_loop_rounds 1 ?_
      rw [rounds_succ]
      go_wp2_with fail
      exact bodyPost_end (v := .tuple #[]) (by simp [results, Try.results47, go_sem]) rfl ⟨rfl, by rw [HE.out]; exact HI1.out, hb1⟩
    · simp only [List.length_nil]
      go_wp2_with fail
      refine wp_loop_rounds 1 ?_
      rw [rounds_succ]
      go_wp2_with fail
      exact bodyPost_end (v := .tuple #[]) (by simp [results, Try.results47, go_sem]) rfl ⟨rfl, by rw [HE.out]; exact HI1.out, hb1⟩
  | succ n ih =>
    intro b k p w done hk hi hM hT hI hN
    have IH := Lib.hid ih
    clear ih
    have HS := Lib.hid (hstep.out b k p w done hi (by omega) hT hI hN)
    have HPa := Lib.hid (fun w hT => implParts (fun x => x < N) wide b k p w hi hT)
    have HT := Lib.hid hT
    have HE := Lib.hid (preTo_all b k)
    have HI := Lib.hid hi
    have hpl := parts_len (b := b) (k := k)
    clear hstep hT hI hi
    go_enter Try.func47, Try.ntmps47
    go_wp2_with fail
    refine (HS.out).mono ?_
    rintro e w1 ⟨rfl, hI1, hb1⟩
    have HT1 := Lib.hid (inW_stays (S' := fun x => x < N) (fun y hy _ => ⟨hy, hb1.block y hy⟩) HT.out)
    have HI1 := Lib.hid (show Inv (done ++ (b, k) :: preTo b k 0) w1 by rw [preTo_zero]; exact hI1)
    clear hI1
    go_wp2_with fail
    refine (HPa.out _ HT1.out).mono ?_
    rintro e w2 ⟨⟨v, rfl, hv⟩, rfl⟩
    rcases hv with ⟨he, rfl⟩ | ⟨g, o, cp, rfl, hg, hl, hc, hx⟩
    · go_wp2_with fail
      refine wp_loop_rounds 1 ?_
      rw [rounds_succ]
      go_wp2_with fail
      exact bodyPost_end (v := .tuple #[]) (by simp [results, Try.results47, go_sem]) rfl ⟨rfl, by rw [← HE.out, he]; exact HI1.out, hb1⟩
    · have HX := Lib.hid hx
      clear hx hl
      obtain ⟨m, hm⟩ : ∃ m, (partsOf b k).length = m := ⟨_, rfl⟩
      rw [hm] at hc hpl HE
      have HM := Lib.hid hm
      rw [hm]
      clear hm
      go_wp2_with fail
      go_loopw [5, 12] (fun u i wr => ∃ j : Nat, j ≤ m ∧ i = .int .i64 j ∧ Hid (Inv (done ++ (b, k) :: preTo b k j) wr) ∧ Below N w1 wr) (fun _ i _ => m - (intOf i).toNat)
      case atStart => exact ⟨0, Nat.zero_le _, rfl, HI1, Below.refl _ _⟩
      case round =>
        obtain ⟨j, hj, rfl, hIj, hbj⟩ := hrel
        have hj9 : (j : Int) ≤ 100000 := by omega
        by_cases hlt : j < m
        · obtain ⟨x, hxj⟩ : ∃ x, (partsOf b k)[j]? = some x := ⟨_, List.getElem?_eq_getElem (by rw [HM.out]; exact hlt)⟩
          obtain ⟨q, hq1, hq2⟩ := HX.out j x hxj
          have hcell : wr.cell? ⟨g, o + j, none⟩ = some (.pointer (some ⟨q, 0, none⟩)) := by rw [cell_same (hbj.block g hg)]; exact hq1
          have hlen := preTo_len hxj
          have hps := part_size (List.mem_of_getElem? hxj)
          have HC := Lib.hid (IH.out x.1 x.2 q wr _ (by omega) (part_is HI.out (List.mem_of_getElem? hxj)) (by rw [List.length_append, List.length_cons]; omega) (inW_stays (S' := fun x => x < N) (fun y hy _ => ⟨hy, hbj.block y hy⟩) hq2) hIj.out (by have := hb1.size; have := hbj.size; omega))
          have HST := Lib.hid (preTo_step hxj)
          clear hq1 hq2 hlen hps hxj
          go_wp2_with fail
          refine (HC.out).mono ?_
          rintro e w3 ⟨rfl, hI3, hb3⟩
          have HI3 := Lib.hid hI3
          clear hI3
          go_wp2_with fail
          go_roundw
          case rel => exact ⟨j + 1, by omega, by go_num, Lib.hid (by rw [HST.out]; have := HI3.out; simpa using this), hbj.trans hb3⟩
          case measure => simp [intOf]; omega
        · obtain rfl : j = m := by omega
          go_wp2_with fail
          exact bodyPost_end (v := .tuple #[]) (by simp [results, Try.results47, go_sem]) rfl ⟨rfl, by rw [← HE.out]; exact hIj.out, hb1.trans hbj⟩
end Go.Proofs.Ytialodkhckaklaa.Ea
