/- For the reader's walk: the state behind its switch, and in its loop over the parts that are wanted. -/
import Derived.Test.YtnhdnfanjefglaaKids
import Derived.Test.YtnhdnfanjefglaaBits
namespace Go.Proofs.Ytnhdnfanjefglaa.Pl
open Go.RowKit Go.Deep

/-- What a reading leaves. -/
def RdPost (rb : Nat) (s : ByteArray) (wide : Bool) (sort a : Nat) (w : World) (e : Ending) (w' : World) : Prop :=
  (P wide [sort] (s.data.toList.drop a) = none ∧ e = .returned (.pointer none) ∧ ∃ a' : Int, Below w.heap.size (w.setCell ⟨rb, 1, none⟩ (.int .i64 a')) w') ∨
  (∃ b k r p, P wide [sort] (s.data.toList.drop a) = some (.node b k .nil, r) ∧ e = .returned (.pointer (some ⟨p, 0, none⟩)) ∧ inW (fun x => w.heap.size ≤ x) w' (.node b k .nil) [p] ∧
    Below w.heap.size (w.setCell ⟨rb, 1, none⟩ (.int .i64 ((a + (tx b k).length : Nat) : Int))) w')

structure Mid (s : ByteArray) (wide : Bool) (rb sort a : Nat) (w : World) (b : UInt8) (ws : List Nat) (m : Nat) (d : F) (qs : List Nat) (v : Value) (wr : World) : Prop where
  hm : m ≤ s.size
  ham : m = a + 1 + d.text.length
  hP : P wide [sort] (s.data.toList.drop a) = (P wide ws (s.data.toList.drop m)).map fun x => (.node b (d.app x.1) .nil, x.2)
  blk : wr.heap[w.heap.size]? = some (.cells #[.int .u8 (b.toNat : Int), v, .string (bs [])] 78)
  own : wr.ownsRow (w.heap.size + 1) 31 1 v qs.length (qs.map ptr)
  inn : inW (fun x => w.heap.size + 1 ≤ x ∧ v.ownBlock ≠ some x) wr d qs
  bel : Below w.heap.size (w.setCell ⟨rb, 1, none⟩ (.int .i64 (m : Int))) wr
  nil : qs = [] → v = .slice none 0 0

theorem size_set (w : World) (p : Addr) (v : Value) : (w.setCell p v).heap.size = w.heap.size := by simp [World.setCell]
theorem lt_of_block {w : World} {k : Nat} {o : Obj} (h : w.heap[k]? = some o) : k < w.heap.size := (Array.getElem?_eq_some_iff.1 h).1
/-- A world that differs in the reader's index alone. -/
theorem below_self {B : Nat} {w w' : World} {rb o : Nat} {v : Value} (hc : w.cell? ⟨rb, o, none⟩ = some v) (h : Below B w w') : Below B (w.setCell ⟨rb, o, none⟩ v) w' := by
  refine ⟨h.os, h.tape, h.output, by rw [size_set]; exact h.size, fun k hk => ?_⟩
  rw [h.block k hk, setCell_heap]
  by_cases e : k = rb
  · subst e
    rw [if_pos rfl]
    unfold World.cell? at hc
    cases hb : w.heap[k]? with
    | none => rfl
    | some ob =>
      rw [hb] at hc
      cases ob with
      | cells c el fr =>
        simp at hc
        simp
        apply Array.ext
        · simp
        · intro i h1 h2
          rw [Array.getElem_setIfInBounds]
          split
          · rename_i e; subst e; rw [Array.getElem?_eq_some_iff] at hc; exact hc.2
          · rfl
      | _ => rfl
  · rw [if_neg e]
theorem cell_of_block {w : World} {g : Nat} {cs : Array Value} {t : TypeId} {fr : Nat × Nat} (h : w.heap[g]? = some (.cells cs t fr)) (o : Nat) : w.cell? ⟨g, o, none⟩ = cs[o]? := by
  unfold World.cell?; rw [h]; simp
/-- The reader's own cells, in a world that only laid blocks above it. -/
theorem rd_cells {B : Nat} {w wr : World} {rb m : Nat} {s : ByteArray} {wide : Bool} {u : Value} (h : Below B (w.setCell ⟨rb, 1, none⟩ (.int .i64 (m : Int))) wr) (hB : rb < B)
    (hc0 : w.cell? ⟨rb, 0, none⟩ = some (.string s)) (hc1 : w.cell? ⟨rb, 1, none⟩ = some u) (hc2 : w.cell? ⟨rb, 2, none⟩ = some (.bool wide)) (hf1 : w.frozen? ⟨rb, 1, none⟩ = false) :
    wr.cell? ⟨rb, 0, none⟩ = some (.string s) ∧ wr.cell? ⟨rb, 1, none⟩ = some (.int .i64 (m : Int)) ∧ wr.cell? ⟨rb, 2, none⟩ = some (.bool wide) ∧ wr.frozen? ⟨rb, 1, none⟩ = false := by
  refine ⟨?_, ?_, ?_, ?_⟩
  · rw [h.cell hB, World.cell?_setCell_other _ _ _ _ (by simp)]; exact hc0
  · rw [h.cell hB]; exact World.cell?_setCell_same _ _ _ hc1
  · rw [h.cell hB, World.cell?_setCell_other _ _ _ _ (by simp)]; exact hc2
  · rw [h.frozen hB, World.frozen?_setCell]; exact hf1
theorem drop_at {s : ByteArray} {a : Nat} (h : a < s.size) : s.data.toList.drop a = s[a] :: s.data.toList.drop (a + 1) := by
  have h' : a < s.data.toList.length := by simpa using h
  rw [List.drop_eq_getElem_cons h']; rfl
theorem row_abides {w w1 : World} {rb o base : Nat} {u : Value} {e : TypeId} {v : Value} {n : Nat} {xs : List Value} (h : w.ownsRow base e 1 v n xs) (hb : rb < base) (h1 : Below w.heap.size (w.setCell ⟨rb, o, none⟩ u) w1) : w1.ownsRow base e 1 v n xs := by
  have h2 := ownsRow_setCell_below h (a := ⟨rb, o, none⟩) hb u
  have hg : (w.setCell ⟨rb, o, none⟩ u).grownBy w1 none := ⟨h1.os, h1.tape, h1.output, h1.size, fun k hk _ => h1.block k (by rw [size_set] at hk; exact hk)⟩
  cases hv : v.ownBlock with
  | none => exact h2.kept hg (.inl hv)
  | some g => exact h2.kept hg (.inr (by rw [hv]; simp))
section
variable {s : ByteArray} {wide : Bool} {rb sort a : Nat} {w : World} {b : UInt8} {ws : List Nat} {m : Nat} {d : F} {qs : List Nat} {v : Value} {wr : World}

theorem Mid.big (h : Mid s wide rb sort a w b ws m d qs v wr) : w.heap.size < wr.heap.size := lt_of_block h.blk
theorem Mid.cell0 (h : Mid s wide rb sort a w b ws m d qs v wr) : wr.cell? ⟨w.heap.size, 0, none⟩ = some (.int .u8 (b.toNat : Int)) ∧ wr.cell? ⟨w.heap.size, 1, none⟩ = some v ∧ wr.cell? ⟨w.heap.size, 2, none⟩ = some (.string (bs [])) :=
  ⟨cell_of_block h.blk 0, cell_of_block h.blk 1, cell_of_block h.blk 2⟩
theorem frozen_of_block {w : World} {g : Nat} {cs : Array Value} {t : TypeId} (h : w.heap[g]? = some (.cells cs t)) (o : Nat) : w.frozen? ⟨g, o, none⟩ = false := by
  unfold World.frozen?; rw [h]; simp

/-- Behind the switch: the parts that are wanted are known; none is read. -/
theorem Mid.start (hlt : a < s.size) (hw : wants wide sort s[a].toNat = some ws) (hblk : wr.heap[w.heap.size]? = some (.cells #[.int .u8 (s[a].toNat : Int), .slice none 0 0, .string (bs [])] 78))
    (hbel : Below w.heap.size (w.setCell ⟨rb, 1, none⟩ (.int .i64 ((a : Int) + 1))) wr) : Mid s wide rb sort a w s[a] ws (a + 1) .nil [] (.slice none 0 0) wr where
  hm := hlt
  ham := rfl
  hP := by rw [P_first (drop_at hlt), hw]; rfl
  blk := hblk
  own := World.ownsRow_nil _ _ _ _
  inn := trivial
  bel := hbel
  nil := fun _ => rfl

/-- A part that is wanted is not there. -/
theorem Mid.bad {x : Nat} {ws' : List Nat} (h : Mid s wide rb sort a w b ws m d qs v wr) (hws : ws = x :: ws') (hx : P wide [x] (s.data.toList.drop m) = none) : P wide [sort] (s.data.toList.drop a) = none := by
  rw [h.hP, hws, P_split, hx]; rfl

/-- One more part is read, and appended. -/
theorem Mid.next {x : Nat} {ws' : List Nat} {b1 : UInt8} {k1 : F} {r : List UInt8} {p : Nat} {w1 w2 w3 : World} {v' : Value} (h : Mid s wide rb sort a w b ws m d qs v wr) (hws : ws = x :: ws') (hrb : rb < w.heap.size)
    (hx : P wide [x] (s.data.toList.drop m) = some (.node b1 k1 .nil, r)) (hin : inW (fun y => wr.heap.size ≤ y) w1 (.node b1 k1 .nil) [p])
    (hb1 : Below wr.heap.size (wr.setCell ⟨rb, 1, none⟩ (.int .i64 ((m + (tx b1 k1).length : Nat) : Int))) w1)
    (h2 : Below w1.heap.size w1 w2) (hown : w3.ownsRow (w.heap.size + 1) 31 1 v' (qs ++ [p]).length ((qs ++ [p]).map ptr)) (hg : w2.grownBy w3 v.ownBlock)
    (hv' : v'.ownBlock = v.ownBlock ∨ ∃ g, v'.ownBlock = some g ∧ w2.heap.size ≤ g) :
    Mid s wide rb sort a w b ws' (m + (tx b1 k1).length) (d.app (.node b1 k1 .nil)) (qs ++ [p]) v' (w3.setCell ⟨w.heap.size, 1, none⟩ v') := by
  have ht : s.data.toList.drop m = tx b1 k1 ++ r := by rw [P_text hx, text_one]
  have hlen := congrArg List.length ht
  simp only [List.length_drop, List.length_append, Array.length_toList] at hlen
  have hsz : s.data.size = s.size := rfl
  have htx := tx_len b1 k1
  have hm := h.hm
  have hbig := h.big
  have s1 := hb1.size
  rw [size_set] at s1
  have s2 := h2.size
  have s3 := hg.size
  have hol := h.own.lt
  have hold : ∀ y, w.heap.size ≤ y → y < wr.heap.size → v.ownBlock ≠ some y → w3.heap[y]? = wr.heap[y]? := by
    intro y hy1 hy2 hy3
    rw [hg.block y (by omega) (fun e => hy3 e.symm), h2.block y (by omega), hb1.block y hy2, setCell_heap, if_neg (by show ¬ y = rb; omega)]
  refine ⟨by omega, ?_, ?_, ?_, ?_, ?_, ?_, ?_⟩
  · rw [text_app, List.length_append, text_one, h.ham]; omega
  · rw [h.hP, hws, P_split, hx]
    have hr : r = s.data.toList.drop (m + (tx b1 k1).length) := by
      rw [← List.drop_drop, ht]; simp
    simp only [← hr]
    cases P wide ws' r with
    | none => rfl
    | some y => simp [app_assoc]
  · rw [setCell_heap, if_pos rfl, hold _ (Nat.le_refl _) hbig (fun e => by have := (hol _ e).1; omega), h.blk]
    rfl
  · exact ownsRow_setCell_below hown (by simp) _
  · refine inW_app (inW_stays ?_ h.inn) (inW_stays ?_ hin)
    · intro y ⟨hy1, hy2⟩ hy3
      refine ⟨⟨hy1, ?_⟩, ?_⟩
      · rcases hv' with e | ⟨g, e, hge⟩
        · rw [e]; exact hy2
        · rw [e]; intro e'; cases e'; omega
      · rw [setCell_heap, if_neg (by simp; omega)]
        exact hold y (by omega) hy3 hy2
    · intro y hy1 hy3
      have hne : v.ownBlock ≠ some y := fun e => by have := (hol _ e).2; omega
      refine ⟨⟨by omega, ?_⟩, ?_⟩
      · rcases hv' with e | ⟨g, e, hge⟩
        · rw [e]; exact hne
        · rw [e]; intro e'; cases e'; omega
      · rw [setCell_heap, if_neg (by simp; omega), hg.block y (by omega) (fun e => hne e.symm), h2.block y (by omega)]
  · have hB : w.heap.size ≤ wr.heap.size := by omega
    have c1 := below_set h.bel hb1 hB
    have c2 := c1.trans (h2.mono (by omega))
    exact (c2.grown hg (by omega) (fun k e => by have := (hol _ e).1; omega)).setCell (Nat.le_refl _) _
  · intro e; simp at e

/-- All parts are read: the text is stored. -/
theorem Mid.done {w1 : World} (h : Mid s wide rb sort a w b [] m d qs v wr) (hw1 : Below wr.heap.size (wr.setCell ⟨w.heap.size, 2, none⟩ (.string (bs (tx b d)))) w1) :
    RdPost rb s wide sort a w (.returned (.pointer (some ⟨w.heap.size, 0, none⟩))) w1 := by
  have hP := h.hP
  rw [P_nil] at hP
  simp only [Option.map_some, app_nil] at hP
  have hbig := h.big
  have s1 := hw1.size
  rw [size_set] at s1
  have hb : w1.heap[w.heap.size]? = some (.cells #[.int .u8 (b.toNat : Int), v, .string (bs (tx b d))] 78) := by
    rw [hw1.block _ hbig, setCell_heap, if_pos rfl, h.blk]; rfl
  have hst : ∀ y, w.heap.size + 1 ≤ y → y < wr.heap.size → w1.heap[y]? = wr.heap[y]? := by
    intro y hy1 hy2
    rw [hw1.block y hy2, setCell_heap, if_neg (by show ¬ y = w.heap.size; omega)]
  refine .inr ⟨b, d, _, w.heap.size, hP, rfl, ⟨Nat.le_refl _, cell_of_block hb 0, cell_of_block hb 2, ⟨v, qs, cell_of_block hb 1, ?_, ?_⟩, trivial⟩, ?_⟩
  · have := kids_of_owns (S := fun y => w.heap.size + 1 ≤ y) h.own (fun g hg => hg) h.nil
    exact kidsAt_stays (fun y hy hl => ⟨by omega, hst y hy hl⟩) this
  · exact inW_stays (fun y hy hl => ⟨by omega, hst y hy.1 hl⟩) h.inn
  · have : a + (tx b d).length = m := by rw [tx_len, h.ham]; omega
    rw [this]
    exact (h.bel.setCell (p := ⟨w.heap.size, 2, none⟩) (Nat.le_refl _) (.string (bs (tx b d)))).trans (hw1.mono (by omega))
/-- The text that is stored. -/
theorem Mid.text (h : Mid s wide rb sort a w b [] m d qs v wr) : a ≤ m ∧ m ≤ s.size ∧ s.extract a m = bs (tx b d) := by
  have hP := h.hP
  rw [P_nil] at hP
  simp only [Option.map_some, app_nil] at hP
  have ht := P_text hP
  rw [text_one] at ht
  have hl : (tx b d).length = m - a := by rw [tx_len, h.ham]; omega
  have := h.ham
  refine ⟨by omega, h.hm, bs_of ?_⟩
  simp only [ByteArray.data_extract, Array.toList_extract, List.extract_eq_take_drop]
  rw [ht, ← hl]; simp
/-- An assignment's variable is there. -/
theorem P_assign (hlt : a < s.size) (h97 : s[a].toNat = 97) (hlt1 : a + 1 < s.size) (hv : vrB wide s[a + 1].toNat = true) : P wide [2] (s.data.toList.drop a) =
    (P wide [0] (s.data.toList.drop (a + 2))).map fun x => (.node s[a] (.node s[a + 1] .nil x.1) .nil, x.2) := by
  rw [P_first (drop_at hlt), show wants wide 2 s[a].toNat = some [3, 0] by rw [h97]; simp [wants]]
  simp only
  rw [P_split, P_first (drop_at hlt1), show wants wide 3 s[a + 1].toNat = some [] by simp [wants, hv]]
  simp only [P_nil, Option.map_some]
  cases P wide [0] (s.data.toList.drop (a + 2)) with
  | none => rfl
  | some x => rfl
theorem P_assign_no (hlt : a < s.size) (h97 : s[a].toNat = 97) (h : a + 1 = s.size ∨ ∃ hlt1 : a + 1 < s.size, vrB wide s[a + 1].toNat = false) : P wide [2] (s.data.toList.drop a) = none := by
  rw [P_first (drop_at hlt), show wants wide 2 s[a].toNat = some [3, 0] by rw [h97]; simp [wants]]
  simp only
  rw [P_split]
  rcases h with h | ⟨hlt1, h⟩
  · rw [show s.data.toList.drop (a + 1) = [] by rw [h]; exact List.drop_of_length_le (by simp), P_end]; rfl
  · rw [P_first (drop_at hlt1), show wants wide 3 s[a + 1].toNat = none by simp [wants, h]]; rfl
/-- An assignment's parts are read: v's node is block V; e's is block p; the slice of both is laid. -/
theorem Mid.assign {b2 : UInt8} {k2 : F} {r : List UInt8} {p : Nat} {W w1 : World} (hlt : a < s.size) (h97 : s[a].toNat = 97) (hlt1 : a + 1 < s.size) (hv : vrB wide s[a + 1].toNat = true) (hrb : rb < w.heap.size)
    (hx : P wide [0] (s.data.toList.drop (a + 2)) = some (.node b2 k2 .nil, r)) (hin : inW (fun y => W.heap.size ≤ y) w1 (.node b2 k2 .nil) [p])
    (hW : Below w.heap.size (w.setCell ⟨rb, 1, none⟩ (.int .i64 ((a + 2 : Nat) : Int))) W)
    (hb1 : Below W.heap.size (W.setCell ⟨rb, 1, none⟩ (.int .i64 ((a + 2 + (tx b2 k2).length : Nat) : Int))) w1)
    (ht : W.heap[w.heap.size]? = some (.cells #[.int .u8 (s[a].toNat : Int), .slice none 0 0, .string (bs [])] 78))
    (hV : W.heap[w.heap.size + 1]? = some (.cells #[.int .u8 (s[a + 1].toNat : Int), .slice none 0 0, .string (bs [s[a + 1]])] 78)) :
    Mid s wide rb 2 a w s[a] [] (a + 2 + (tx b2 k2).length) (.node s[a + 1] .nil (.node b2 k2 .nil)) [w.heap.size + 1, p] (.slice (some ⟨w1.heap.size, 0, none⟩) 2 2)
      ((w1.alloc (.cells #[ptr (w.heap.size + 1), ptr p] 31)).setCell ⟨w.heap.size, 1, none⟩ (.slice (some ⟨w1.heap.size, 0, none⟩) 2 2)) := by
  have hlen := congrArg List.length (show s.data.toList.drop (a + 2) = tx b2 k2 ++ r by rw [P_text hx, text_one])
  simp only [List.length_drop, List.length_append, Array.length_toList] at hlen
  have hsz : s.data.size = s.size := rfl
  have htx := tx_len b2 k2
  have hr : r = s.data.toList.drop (a + 2 + (tx b2 k2).length) := by
    rw [← List.drop_drop, show s.data.toList.drop (a + 2) = tx b2 k2 ++ r by rw [P_text hx, text_one]]; simp
  have l1 := lt_of_block ht
  have l2 := lt_of_block hV
  have s1 := hb1.size
  rw [size_set] at s1
  have hold : ∀ y, w.heap.size ≤ y → y < W.heap.size → (w1.alloc (.cells #[ptr (w.heap.size + 1), ptr p] 31)).heap[y]? = W.heap[y]? := by
    intro y hy1 hy2
    rw [Below.heap_alloc _ _ _ (by omega), hb1.block y hy2, setCell_heap, if_neg (by show ¬ y = rb; omega)]
  refine ⟨by omega, ?_, ?_, ?_, ?_, ?_, ?_, ?_⟩
  · simp only [F.text, List.length_cons, List.nil_append, List.append_nil]
    simp only [tx, List.length_cons]
    omega
  · rw [P_assign hlt h97 hlt1 hv, hx, P_nil]
    simp [app_nil, hr]
  · rw [setCell_heap, if_pos rfl, hold _ (Nat.le_refl _) l1, ht]; rfl
  · exact ownsRow_setCell_below (World.ownsRow_lit w1 #[ptr (w.heap.size + 1), ptr p] 2 (by omega) (by decide) rfl) (by simp) _
  · have hc : ∀ o, ((w1.alloc (.cells #[ptr (w.heap.size + 1), ptr p] 31)).setCell ⟨w.heap.size, 1, none⟩ (.slice (some ⟨w1.heap.size, 0, none⟩) 2 2)).cell? ⟨w.heap.size + 1, o, none⟩ =
        (#[.int .u8 (s[a + 1].toNat : Int), .slice none 0 0, .string (bs [s[a + 1]])] : Array Value)[o]? := by
      intro o
      refine cell_of_block (t := 78) (fr := (0, 0)) ?_ o
      rw [setCell_heap, if_neg (by show ¬ w.heap.size + 1 = w.heap.size; omega), hold _ (by omega) l2]; exact hV
    refine ⟨⟨Nat.le_refl _, ?_⟩, hc 0, hc 2, ⟨_, [], hc 1, .inl ⟨rfl, rfl⟩, trivial⟩, ?_⟩
    · intro e
      have e' : w1.heap.size = w.heap.size + 1 := Option.some.inj e
      omega
    · refine inW_stays ?_ hin
      intro y hy1 hy3
      refine ⟨⟨by omega, ?_⟩, ?_⟩
      · intro e
        have e' : w1.heap.size = y := Option.some.inj e
        omega
      · rw [setCell_heap, if_neg (by show ¬ y = w.heap.size; omega), Below.heap_alloc _ _ _ hy3]
  · exact ((below_set hW hb1 (by omega)).alloc (by omega) _).setCell (Nat.le_refl _) _
  · intro e; cases e
end
end Go.Proofs.Ytnhdnfanjefglaa.Pl
