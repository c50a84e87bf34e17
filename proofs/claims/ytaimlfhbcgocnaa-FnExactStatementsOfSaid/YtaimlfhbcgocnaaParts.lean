/- Contracts: the parts of a statement: l3Parts, parts. -/
import Derived.Test.YtaimlfhbcgocnaaHead
namespace Go.Proofs.Ytaimlfhbcgocnaa.Pp
open Go.RowKit Go.Deep Go.Proofs.Ytaimlfhbcgocnaa.Pl Go.Proofs.Ytaimlfhbcgocnaa.Bi Go.Proofs.Ytaimlfhbcgocnaa.Fi Go.Proofs.Ytaimlfhbcgocnaa.Ed Go.Proofs.Ytaimlfhbcgocnaa.Ps Go.Proofs.Ytaimlfhbcgocnaa.Sw Go.Proofs.Ytaimlfhbcgocnaa.Hd
set_option linter.unusedVariables false

/-! ### Plain -/
theorem members_size : ∀ (t : F) (x : UInt8 × F), x ∈ t.members → x.2.size + 1 ≤ t.size
  | .nil, x, h => by simp [F.members] at h
  | .node b k n, x, h => by
    simp only [F.members, List.mem_cons] at h
    simp only [F.size]
    rcases h with rfl | h
    · simp only; omega
    · have := members_size n x h; omega
theorem partsL_mem {α : Type} {b : UInt8} {vs : List α} {x : α} (h : x ∈ partsL b vs) : x ∈ vs := by
  unfold partsL at h
  split at h
  · exact h
  · split at h
    · exact List.mem_of_mem_tail h
    · cases h
theorem part_size {b : UInt8} {k : F} {x : UInt8 × F} (h : x ∈ partsOf b k) : x.2.size + 1 ≤ k.size := members_size k x (partsL_mem h)
theorem part_is {wide : Bool} {b : UInt8} {k : F} (h : Is wide 2 b k) {x : UInt8 × F} (hx : x ∈ partsOf b k) : Is wide 2 x.1 x.2 := by
  rcases is_prog h with ⟨rfl, hb⟩ | ⟨hb, b1, b2, k2, rfl, hv, i2⟩ | ⟨hb, b1, k1, b2, k2, rfl, i1, i2⟩ | ⟨hb, b0, k0, b1, k1, b2, k2, rfl, i0, i1, i2⟩ | ⟨hb, b0, k0, b1, k1, rfl, i0, i1⟩ | ⟨hb, b0, k0, rfl, i0⟩
  · simp [partsOf, partsL, hb] at hx
  · simp [partsOf, partsL, hb] at hx
  · rcases hb with hb | hb <;> simp [partsOf, partsL, hb, F.members] at hx <;> rcases hx with rfl | rfl <;> assumption
  · simp [partsOf, partsL, hb, F.members] at hx; rcases hx with rfl | rfl <;> assumption
  · simp [partsOf, partsL, hb, F.members] at hx; subst hx; assumption
  · simp [partsOf, partsL, hb, F.members] at hx
theorem tx_parts {wide : Bool} {b : UInt8} {k : F} (h : Is wide 2 b k) : tx b k = b :: headT b k ++ ((partsOf b k).map fun x => tx x.1 x.2).flatten := by
  rcases is_prog h with ⟨rfl, hb⟩ | ⟨hb, b1, b2, k2, rfl, hv, i2⟩ | ⟨hb, b1, k1, b2, k2, rfl, i1, i2⟩ | ⟨hb, b0, k0, b1, k1, b2, k2, rfl, i0, i1, i2⟩ | ⟨hb, b0, k0, b1, k1, rfl, i0, i1⟩ | ⟨hb, b0, k0, rfl, i0⟩
  · simp [partsOf, partsL, hb, headT, tx, F.text]
  · simp [partsOf, partsL, hb, headT, tx, F.text]
  · rcases hb with hb | hb <;> simp [partsOf, partsL, hb, F.members, headT, tx, F.text]
  · simp [partsOf, partsL, hb, F.members, headT, tx, F.text]
  · simp [partsOf, partsL, hb, F.members, headT, tx, F.text]
  · simp [partsOf, partsL, hb, F.members, headT, tx, F.text]
theorem parts_len {b : UInt8} {k : F} : (partsOf b k).length ≤ k.size := by
  have h1 : ∀ t : F, t.members.length ≤ t.size := by
    intro t
    induction t with
    | nil => simp [F.members, F.size]
    | node b k n _ ih => simp [F.members, F.size]; omega
  have h2 : (partsL b k.members).length ≤ k.members.length := by
    unfold partsL
    split
    · exact Nat.le_refl _
    · split <;> simp
  exact Nat.le_trans h2 (h1 k)
/-- Where the i-th part begins. -/
def pos (b : UInt8) (k : F) (i : Nat) : Nat := 1 + (headT b k).length + (((partsOf b k).take i).map fun x => (tx x.1 x.2).length).sum
theorem flat_drop : ∀ (L : List (List UInt8)) (i : Nat) (y : List UInt8), L[i]? = some y → L.flatten.drop (((L.take i).map List.length).sum) = y ++ (L.drop (i + 1)).flatten
  | [], i, y, h => by simp at h
  | a :: L, 0, y, h => by simp at h; subst h; simp
  | a :: L, i + 1, y, h => by
    have := flat_drop L i y (by simpa using h)
    simp only [List.take_succ_cons, List.map_cons, List.sum_cons, List.flatten_cons, List.drop_succ_cons]
    rw [← this, List.drop_append, List.drop_of_length_le (by omega)]
    simp
theorem pos_zero (b : UInt8) (k : F) : pos b k 0 = 1 + (headT b k).length := by simp [pos]
theorem pos_step {b : UInt8} {k : F} {i : Nat} {x : UInt8 × F} (h : (partsOf b k)[i]? = some x) : pos b k (i + 1) = pos b k i + (tx x.1 x.2).length := by
  unfold pos
  rw [List.take_add_one, h]
  simp [List.map_append]
  omega
theorem pos_all {wide : Bool} {b : UInt8} {k : F} (hi : Is wide 2 b k) : pos b k (partsOf b k).length = (tx b k).length := by
  rw [tx_parts hi]
  unfold pos
  rw [List.take_of_length_le (Nat.le_refl _)]
  simp [List.length_flatten, Function.comp_def]
  omega
theorem pos_drop {wide : Bool} {b : UInt8} {k : F} (hi : Is wide 2 b k) {i : Nat} {x : UInt8 × F} (h : (partsOf b k)[i]? = some x) :
    ∃ r, (tx b k).drop (pos b k i) = tx x.1 x.2 ++ r := by
  refine ⟨(((partsOf b k).map fun x => tx x.1 x.2).drop (i + 1)).flatten, ?_⟩
  have := flat_drop ((partsOf b k).map fun x => tx x.1 x.2) i (tx x.1 x.2) (by rw [List.getElem?_map, h]; rfl)
  rw [← this, tx_parts hi]
  unfold pos
  rw [← List.map_take, List.map_map, List.drop_append, List.drop_of_length_le (by simp; omega)]
  simp only [List.nil_append, List.length_cons, List.cons_append]
  congr 1
  simp only [Function.comp_def]
  omega
theorem pos_mono {b : UInt8} {k : F} {i : Nat} {x : UInt8 × F} (h : (partsOf b k)[i]? = some x) : pos b k i < pos b k (i + 1) := by
  rw [pos_step h]; have := tx_len x.1 x.2; omega
theorem cut_mid {s : ByteArray} {l r : List UInt8} {a : Nat} (h : s.data.toList.drop a = l ++ r) : s.extract a (a + l.length) = bs l := by
  refine bs_of ?_
  simp only [ByteArray.data_extract, Array.toList_extract, List.extract_eq_take_drop]
  rw [h, show a + l.length - a = l.length by omega]
  simp

/-! ### Rows of texts -/
/-- A row of texts that nobody else holds. -/
def strs (base : Nat) (w : World) (v : Value) (xs : List ByteArray) : Prop := w.ownsRow base 9 1 v xs.length (xs.map Value.string) ∧ v ≠ .slice none 0 0
theorem strs_form {base : Nat} {w : World} {v : Value} {xs : List ByteArray} (h : strs base w v xs) : ∃ g cap, v = .slice (some ⟨g, 0, none⟩) xs.length cap ∧ base ≤ g ∧ g < w.heap.size ∧ xs.length ≤ cap ∧
    (∀ i x, xs[i]? = some x → w.cell? ⟨g, i, none⟩ = some (.string x)) ∧ (∀ i, w.frozen? ⟨g, i, none⟩ = false) := by
  obtain ⟨h, hn⟩ := h
  rcases h.2 with ⟨hv, _⟩ | ⟨g, cap, cur, hv, hg, hh, hc, _⟩
  · exact absurd hv hn
  · refine ⟨g, cap, hv, hg, (Array.getElem?_eq_some_iff.1 hh).1, hc, fun i x hx => ?_, fun i => by simp [World.frozen?, hh]⟩
    have := h.cells (g := g) (by rw [hv]; rfl) i (.string x) (by rw [List.getElem?_map, hx]; rfl)
    have e : (⟨g, 0, none⟩ : Addr).add i = ⟨g, i, none⟩ := by unfold Addr.add; split <;> simp_all
    rw [e] at this
    exact this
theorem grown_of_below {w w' : World} (h : Below w.heap.size w w') : w.grownBy w' none := ⟨h.os, h.tape, h.output, h.size, fun k hk _ => h.block k hk⟩
theorem strs_below {base : Nat} {w w' : World} {v : Value} {xs : List ByteArray} (h : strs base w v xs) (hb : Below w.heap.size w w') : strs base w' v xs := by
  refine ⟨?_, h.2⟩
  cases hv : v.ownBlock with
  | none => exact h.1.kept (grown_of_below hb) (.inl hv)
  | some g => exact h.1.kept (grown_of_below hb) (.inr (by rw [hv]; simp))
theorem strs_alloc {base : Nat} {w : World} {v : Value} {xs : List ByteArray} (h : strs base w v xs) (ob : Obj) : strs base (w.alloc ob) v xs := strs_below h ((Below.refl _ w).alloc (Nat.le_refl _) _)
theorem below_grown {B : Nat} {w w1 w2 : World} {v : Value} {base n : Nat} {t : TypeId} {xs : List Value} (h : Below B w w1) (hg : w1.grownBy w2 v.ownBlock) (ho : w1.ownsRow base t 1 v n xs) (hB : B ≤ base) (hl : B ≤ w1.heap.size) : Below B w w2 :=
  h.grown hg hl fun k hk => Nat.le_trans hB (ho.lt k hk).1
theorem infoStr : (Try.prog.info? 9).map (fun i => (i.zero, i.size, i.bytes)) = some (some (.string ⟨#[]⟩), 1, 16) := by kernel_rfl
theorem new_one (w : World) (x : Value) (t : TypeId) (c : Nat) (hc : c = w.heap.size) : ∀ j u, [x][j]? = some u → (w.alloc (.cells #[x] t)).cell? ((⟨c, 0, none⟩ : Addr).add j) = some u := by
  intro j u hj
  subst hc
  match j, hj with
  | 0, hj =>
    simp at hj
    subst hj
    exact cell_one_new _ _ _ 0 _ rfl
  | j + 1, hj => simp at hj
theorem one_str (x : ByteArray) : ∀ u ∈ [Value.string x], u.oneCell' = true := by
  intro u hu; simp at hu; subst hu; rfl
theorem app_one {base : Nat} {w2 w3 : World} {v v' : Value} {ys : List ByteArray} {y : ByteArray} {ob : Obj} {n : Nat} (h : strs base w2 v ys) (hn : n = ys.length + 1)
    (ho : w3.ownsRow base 9 1 v' n (ys.map Value.string ++ [.string y])) (hg : (w2.alloc ob).grownBy w3 v.ownBlock) (hv : v' = .slice none 0 0 ↔ v = .slice none 0 0 ∧ 1 = 0) :
    (∃ g c, v' = .slice (some ⟨g, 0, none⟩) n c) ∧ strs base w3 v' (ys ++ [y]) ∧ ∀ B W, B ≤ base → Below B W w2 → B ≤ w2.heap.size → Below B W w3 := by
  subst hn
  have hne : v' ≠ .slice none 0 0 := fun e => by have := (hv.1 e).2; omega
  refine ⟨?_, ⟨?_, hne⟩, fun B W hB hb hl => ?_⟩
  · rcases ho.2 with ⟨e, _⟩ | ⟨g, cap, cur, e, _⟩
    · exact absurd e hne
    · exact ⟨g, cap, e⟩
  · simpa using ho
  · have h1 := strs_alloc h ob
    exact below_grown (hb.alloc hl ob) hg h1.1 hB (Nat.le_trans hl (by simp))
set_option maxRecDepth 100000 in
set_option maxHeartbeats 4000000 in
theorem specParts (wide : Bool) (b : UInt8) (k : F) (w : World) (hi : Is wide 2 b k) (hs : (tx b k).length ≤ 1000) :
    Calls Try.prog 35 #[.string (bs (tx b k)), .bool wide] w fun e w' => ∃ v, e = .returned v ∧ strs w.heap.size w' v ((partsOf b k).map fun x => bs (tx x.1 x.2)) ∧ Below w.heap.size w w' := by
  obtain ⟨i0, hi0, hz0, hz1, hz2⟩ := info_parts infoStr
  have HH := Lib.hid (fun w => specHead wide b k w hi hs)
  have z := bs_size (tx b k)
  have HE := Lib.hid (fun a w h => specProgAny (bs (tx b k)) (by omega) wide a w h)
  have HP := Lib.hid hi
  clear hi
  go_enter Try.func35, Try.ntmps35
  go_wp2_with fail
  refine (HH.out _).mono ?_
  rintro e w1 ⟨rfl, hb1⟩
  have s0 : strs w.heap.size (w.alloc (.cells #[] 9)) (.slice (some ⟨w.heap.size, 0, none⟩) 0 0) ([] : List ByteArray) :=
    ⟨World.ownsRow_made w #[] 0 (Nat.le_refl _) (by unfold maxLen; omega) rfl, by simp⟩
  have s1 := strs_below s0 hb1
  have hbel := ((Below.refl w.heap.size w).alloc (Nat.le_refl _) (.cells #[] 9)).trans (hb1.mono (by simp))
  clear hb1 s0
  go_wp2_with fail
  go_loopw [5, 6, 7] (fun out at_ u wr => ∃ (i : Nat) (c : Nat) (g : Nat), i ≤ (partsOf b k).length ∧ at_ = .int .i64 (pos b k i : Nat) ∧ out = .slice (some ⟨g, 0, none⟩) i c ∧
      strs w.heap.size wr (.slice (some ⟨g, 0, none⟩) i c) (((partsOf b k).take i).map fun x => bs (tx x.1 x.2)) ∧ Below w.heap.size w wr) (fun _ at_ _ _ => (tx b k).length - (intOf at_).toNat)
  case atStart => exact ⟨0, 0, w.heap.size, Nat.zero_le _, by rw [pos_zero]; go_num, rfl, s1, hbel⟩
  case round =>
    obtain ⟨i, c, g, hi, rfl, rfl, hown, hb⟩ := hrel
    by_cases hlt : i < (partsOf b k).length
    · obtain ⟨x, hx⟩ : ∃ x, (partsOf b k)[i]? = some x := ⟨_, List.getElem?_eq_getElem hlt⟩
      have hm := pos_mono hx
      obtain ⟨r, hr⟩ := pos_drop HP.out hx
      have hsz : pos b k (i + 1) ≤ (tx b k).length := by
        have h1 := congrArg List.length hr
        rw [List.length_drop, List.length_append] at h1
        have h2 := pos_step hx
        have h3 := tx_len x.1 x.2
        omega
      have hcut : (bs (tx b k)).extract (pos b k i) (pos b k (i + 1)) = bs (tx x.1 x.2) := by rw [pos_step hx]; exact cut_mid (by rw [bs_list]; exact hr)
      have he := ends_is (part_is HP.out (List.mem_of_getElem? hx)) hr
      rw [show (pos b k i : Int) + ((tx x.1 x.2).length : Int) = (pos b k (i + 1) : Int) by rw [pos_step hx]; omega] at he
      have HC := Lib.hid (HE.out (pos b k i : Int) wr (by omega))
      rw [bs_list, he] at HC
      have HT := Lib.hid (show ((partsOf b k).take (i + 1)).map (fun x => bs (tx x.1 x.2)) = ((partsOf b k).take i).map (fun x => bs (tx x.1 x.2)) ++ [bs (tx x.1 x.2)] by rw [List.take_add_one, hx]; simp)
      have HLN := Lib.hid (show (((partsOf b k).take i).map fun x => bs (tx x.1 x.2)).length = i by simp; omega)
      have HCUT := Lib.hid hcut
      obtain ⟨T, hT⟩ : ∃ T, bs (tx b k) = T := ⟨_, rfl⟩
      obtain ⟨a0, ha0⟩ : ∃ a0, pos b k i = a0 := ⟨_, rfl⟩
      obtain ⟨a1, ha1⟩ : ∃ a1, pos b k (i + 1) = a1 := ⟨_, rfl⟩
      obtain ⟨y, hy⟩ : ∃ y, bs (tx x.1 x.2) = y := ⟨_, rfl⟩
      obtain ⟨ys, hys⟩ : ∃ ys, ((partsOf b k).take i).map (fun x => bs (tx x.1 x.2)) = ys := ⟨_, rfl⟩
      have HA1 := Lib.hid ha1
      rw [hT] at z HC HCUT ⊢
      rw [ha0, ha1] at hm HC HCUT
      rw [ha0]
      rw [ha1] at hsz
      rw [hy] at HCUT HT
      rw [hys] at hown HT HLN
      have i1 : (a0 : Int) < (T.size : Int) := by omega
      have i2 : (a1 : Int) ≤ (T.size : Int) := by omega
      have i3 : (a0 : Int) ≤ (a1 : Int) := by omega
      have i4 : a0 < a1 := hm
      have hin : i < 1000 := by have := parts_len (b := b) (k := k); have := tx_len b k; have := F.length_text k; omega
      clear hr hcut he hx hT ha0 ha1 hy hys hm hsz
      go_wp2_with fail
      refine (HC.out).mono ?_
      rintro e w2 ⟨rfl, hb2⟩
      have O2 := strs_below hown hb2
      have hb3 := hb.trans (hb2.mono hb.size)
      clear hown hb hb2
      go_wp2_with (at_builtin; refine wpList_append_own _ rfl (.tmp 20) (.tmp 25) 33 rfl w.heap.size 9 i0 (.string ⟨#[]⟩) 1 16 Try.underlying33 hi0 hz0 hz1 hz2 rfl (by decide) _ _ _ rfl (strs_alloc O2 _).1 ⟨w2.heap.size, 0, none⟩ 1 1 [.string (T.extract a0 a1)] rfl rfl (new_one _ _ _ _ rfl) (one_str _) (by rw [HLN.out]; unfold maxLen; omega) (by rw [HLN.out]; omega) (Nat.le_trans hb3.size (by simp)) ?_; intro v' w3 ho3 hg3 hn3; obtain ⟨⟨g', c', rfl⟩, O3, B3⟩ := app_one O2 rfl ho3 hg3 hn3)
      go_roundw
      case rel => exact ⟨i + 1, c', g', by omega, by rw [HA1.out], by rw [HLN.out], by rw [HT.out, ← HCUT.out]; rw [HLN.out] at O3; exact O3, B3 _ _ (Nat.le_refl _) hb3 hb3.size⟩
      case measure => simp [intOf]; omega
    · obtain rfl : i = (partsOf b k).length := by omega
      rw [List.take_of_length_le (Nat.le_refl _)] at hown
      have hp := pos_all HP.out
      have g1 : ((bs (tx b k)).size : Int) ≤ (pos b k (partsOf b k).length : Int) := by omega
      go_wp2_with fail
      go_ret
      exact ⟨_, rfl, hown, hb⟩
/-! ### Trees -/
/-- A slice of pointers to trees, in blocks of S. -/
def ptrs (S : Nat → Prop) (w : World) (v : Value) (xs : List (UInt8 × F)) : Prop :=
  (xs = [] ∧ v = .slice none 0 0) ∨ ∃ g o cap, v = .slice (some ⟨g, o, none⟩) xs.length cap ∧ S g ∧ (xs = [] ∨ g < w.heap.size) ∧ xs.length ≤ cap ∧
    ∀ i x, xs[i]? = some x → ∃ q, w.cell? ⟨g, o + i, none⟩ = some (.pointer (some ⟨q, 0, none⟩)) ∧ inW S w (.node x.1 x.2 .nil) [q]
theorem ptrs_stays {S : Nat → Prop} {w w' : World} (h : ∀ b, S b → b < w.heap.size → w'.heap[b]? = w.heap[b]?) (hs : w.heap.size ≤ w'.heap.size) {v : Value} {xs : List (UInt8 × F)} (hk : ptrs S w v xs) : ptrs S w' v xs := by
  rcases hk with hk | ⟨g, o, cap, hv, hg, hl, hc, hx⟩
  · exact .inl hk
  · refine .inr ⟨g, o, cap, hv, hg, hl.imp id (by omega), hc, fun i x hi => ?_⟩
    obtain ⟨q, h1, h2⟩ := hx i x hi
    exact ⟨q, by rw [cell_same (h g hg (lt_of_cell h1))]; exact h1, inW_stays (fun b hb hl => ⟨hb, h b hb hl⟩) h2⟩
theorem inW_one {S : Nat → Prop} {w : World} {b : UInt8} {k n : F} {p : Nat} {ps : List Nat} (h : inW S w (.node b k n) (p :: ps)) : inW S w (.node b k .nil) [p] := ⟨h.1, h.2.1, h.2.2.1, h.2.2.2.1, trivial⟩
theorem inW_get {S : Nat → Prop} {w : World} : ∀ {t : F} {ps : List Nat}, inW S w t ps → ps.length = t.members.length ∧ ∀ (i : Nat) (x : UInt8 × F), t.members[i]? = some x → ∃ q, ps[i]? = some q ∧ inW S w (.node x.1 x.2 .nil) [q]
  | .nil, [], _ => ⟨rfl, fun i x h => by simp [F.members] at h⟩
  | .nil, _ :: _, h => h.elim
  | .node _ _ _, [], h => h.elim
  | .node b k n, p :: ps, h => by
    obtain ⟨h1, h2⟩ := inW_get (t := n) (ps := ps) h.2.2.2.2
    refine ⟨by simp [F.members, h1], fun i x hx => ?_⟩
    cases i with
    | zero => simp [F.members] at hx; subst hx; exact ⟨p, rfl, inW_one h⟩
    | succ i => exact h2 i x (by simpa [F.members] using hx)
/-- The parts' pointers. -/
theorem kids_ptrs {S : Nat → Prop} {w : World} {b : UInt8} {k : F} {p : Nat} (h : inW S w (.node b k .nil) [p]) : ∃ v, w.cell? ⟨p, 1, none⟩ = some v ∧ ptrs S w v k.members := by
  obtain ⟨_, _, _, ⟨v, qs, h1, hk, hkk⟩, _⟩ := h
  refine ⟨v, h1, ?_⟩
  obtain ⟨hl, hm⟩ := inW_get hkk
  rcases hk with ⟨hq, hv⟩ | ⟨hq, g, cap, hg, hv, hc⟩
  · subst hq
    exact .inl ⟨List.eq_nil_of_length_eq_zero (by simpa using hl.symm), hv⟩
  · refine .inr ⟨g, 0, cap, by rw [hv, hl], hg.1, .inr ?_, by rw [← hl]; exact hg.2, fun i x hx => ?_⟩
    · cases qs with
      | nil => exact absurd rfl hq
      | cons q qs => exact lt_of_cell (hc 0 q rfl)
    · obtain ⟨q, h1, h2⟩ := hm i x hx
      exact ⟨q, by rw [Nat.zero_add]; exact hc i q h1, h2⟩
end Go.Proofs.Ytaimlfhbcgocnaa.Pp
