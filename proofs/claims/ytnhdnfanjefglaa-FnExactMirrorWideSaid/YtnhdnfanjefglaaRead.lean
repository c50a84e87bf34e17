/- Contract of the reader: it reads one text of a sort, and lays its tree. -/
import Derived.Test.YtnhdnfanjefglaaMid
import Derived.Deep.CutBlock
import Derived.WalkSmall
import Derived.OwnWalk
import Derived.Deep.QuietTactic
import Derived.BigQuiet
import Derived.BigRegion
import Derived.Deep.DeepCutAuto
import Derived.Says
namespace Go.Proofs.Ytnhdnfanjefglaa.Rd
open Go.RowKit Go.Deep Go.Proofs.Ytnhdnfanjefglaa.Pl Go.Proofs.Ytnhdnfanjefglaa.Bi
set_option linter.unusedVariables false

theorem implVariable (rb : Nat) (b : UInt8) (wide : Bool) (w : World) (hc : w.cell? ⟨rb, 2, none⟩ = some (.bool wide)) :
    Calls Try.prog 30 #[.pointer (some ⟨rb, 0, none⟩), .int .u8 (b.toNat : Int)] w fun e w' => e = .returned (.bool (vrB wide b.toNat)) ∧ w = w' := by
  by_cases h1 : 120 ≤ b.toNat
  · by_cases h2 : b.toNat ≤ 122
    · have H := Lib.hid (show vrB wide b.toNat = true by simp [vrB, h1, h2])
      go_enter Try.func30, Try.ntmps30
      go_wp2
      all_goals (go_ret; exact ⟨by rw [H.out]; first | rfl | (simp; done) | (simp; omega), rfl⟩)
    · have H := Lib.hid (show vrB wide b.toNat = false by cases wide <;> simp [vrB] <;> omega)
      have h3 : (88 : Int) ≤ b.toNat := by omega
      have h4 : decide ((b.toNat : Int) ≤ 90) = false := by simp; omega
      go_enter Try.func30, Try.ntmps30
      cases wide <;> (go_wp2; all_goals (go_ret; exact ⟨by rw [H.out]; first | rfl | (simp; done) | (simp; omega), rfl⟩))
  · cases wide with
    | false =>
      have H := Lib.hid (show vrB false b.toNat = false by simp [vrB]; omega)
      go_enter Try.func30, Try.ntmps30
      go_wp2
      all_goals (go_ret; exact ⟨by rw [H.out]; first | rfl | (simp; done) | (simp; omega), rfl⟩)
    | true =>
      by_cases h3 : 88 ≤ b.toNat
      · by_cases h4 : b.toNat ≤ 90
        · have H := Lib.hid (show vrB true b.toNat = true by simp [vrB]; omega)
          go_enter Try.func30, Try.ntmps30
          go_wp2
          all_goals (go_ret; exact ⟨by rw [H.out]; first | rfl | (simp; done) | (simp; omega), rfl⟩)
        · have H := Lib.hid (show vrB true b.toNat = false by simp [vrB]; omega)
          go_enter Try.func30, Try.ntmps30
          go_wp2
          all_goals (go_ret; exact ⟨by rw [H.out]; first | rfl | (simp; done) | (simp; omega), rfl⟩)
      · have H := Lib.hid (show vrB true b.toNat = false by simp [vrB]; omega)
        go_enter Try.func30, Try.ntmps30
        go_wp2
        all_goals (go_ret; exact ⟨by rw [H.out]; first | rfl | (simp; done) | (simp; omega), rfl⟩)

/-- The slice of the sorts that are wanted. -/
def WantAt (ad : Option Addr) (w : World) (v : Value) (B : Nat) (ws : List Nat) : Prop :=
  (ws = [] ∧ ad = none) ∨ ∃ g, ad = some ⟨g, 0, none⟩ ∧ B < g ∧ v.ownBlock ≠ some g ∧ ∀ (j x : Nat), ws[j]? = some x → w.cell? ⟨g, j, none⟩ = some (.int .i64 (x : Int))

theorem few {t : F} : t.len ≤ t.text.length := by
  induction t with
  | nil => exact Nat.zero_le _
  | node b k n _ ih => simp only [F.len, F.text, List.length_cons, List.length_append]; omega
theorem kid_facts {s : ByteArray} {wide : Bool} {rb sort a : Nat} {w : World} {b : UInt8} {ws : List Nat} {m : Nat} {d : F} {qs : List Nat} {v : Value} {wr w1 : World} {u : Value} (hs : s.size ≤ 1000) (hrb : rb < w.heap.size)
    (h : Mid s wide rb sort a w b ws m d qs v wr) (hb1 : Below wr.heap.size (wr.setCell ⟨rb, 1, none⟩ u) w1) :
    w1.cell? ⟨w.heap.size, 1, none⟩ = some v ∧ w1.frozen? ⟨w.heap.size, 1, none⟩ = false ∧ w1.ownsRow (w.heap.size + 1) 31 1 v qs.length (qs.map ptr) ∧ w.heap.size < w1.heap.size ∧ qs.length ≤ 1000000 ∧ v.ownBlock ≠ some w.heap.size := by
  have hbig := h.big
  have hsz := hb1.size
  rw [size_set] at hsz
  have hblk : w1.heap[w.heap.size]? = some (.cells #[.int .u8 (b.toNat : Int), v, .string (bs [])] 78) := by
    rw [hb1.block _ hbig, setCell_heap, if_neg (by show ¬ w.heap.size = rb; omega)]; exact h.blk
  refine ⟨cell_of_block hblk 1, frozen_of_block hblk 1, row_abides h.own (by omega) hb1, by omega, ?_, ?_⟩
  · have := inW_len h.inn
    have := few (t := d)
    have := h.ham
    have := h.hm
    omega
  · intro e
    have := (h.own.lt _ e).1
    omega
theorem want_next {w w1 w2 w3 : World} {wr : World} {rb g : Nat} {u v v' y : Value} {ws : List Nat} (hrb : rb < w.heap.size) (hgB : w.heap.size < g) (hgv : v.ownBlock ≠ some g) (hgr : g < wr.heap.size)
    (hgc : ∀ (j x : Nat), ws[j]? = some x → wr.cell? ⟨g, j, none⟩ = some (.int .i64 (x : Int))) (hb1 : Below wr.heap.size (wr.setCell ⟨rb, 1, none⟩ u) w1) (h2 : Below w1.heap.size w1 w2) (hg : w2.grownBy w3 v.ownBlock)
    (hv' : v'.ownBlock = v.ownBlock ∨ ∃ g, v'.ownBlock = some g ∧ w2.heap.size ≤ g) : WantAt (some ⟨g, 0, none⟩) (w3.setCell ⟨w.heap.size, 1, none⟩ y) v' w.heap.size ws := by
  have s1 := hb1.size
  rw [size_set] at s1
  have s2 := h2.size
  refine .inr ⟨g, rfl, hgB, ?_, fun j x hj => ?_⟩
  · rcases hv' with e | ⟨g', e, hge⟩
    · rw [e]; exact hgv
    · rw [e]; intro e'
      have : g' = g := Option.some.inj e'
      omega
  · rw [cell_same (w := wr) ?_]
    · exact hgc j x hj
    · rw [setCell_heap, if_neg (by show ¬ g = w.heap.size; omega), hg.block g (by omega) (fun e => hgv e.symm), h2.block g (by omega), hb1.block g hgr, setCell_heap, if_neg (by show ¬ g = rb; omega)]
theorem after_append {w2 w3 : World} {v : Value} {b o : Nat} {u : Value} (hg : w2.grownBy w3 v.ownBlock) (hv : v.ownBlock ≠ some b) (hc : w2.cell? ⟨b, o, none⟩ = some u) (hf : w2.frozen? ⟨b, o, none⟩ = false) : w3.cell? ⟨b, o, none⟩ = some u ∧ w3.frozen? ⟨b, o, none⟩ = false := by
  have e := hg.block b (lt_of_cell hc) (fun e => hv e.symm)
  exact ⟨by rw [cell_same e]; exact hc, by rw [World.frozen?_of_block e]; exact hf⟩

theorem own_form {w : World} {base : Nat} {e : TypeId} {size : Nat} {v : Value} {n : Nat} {xs : List Value} (h : w.ownsRow base e size v n xs) : ∃ a n c, v = .slice a n c := by
  rcases h.2 with ⟨h, _⟩ | ⟨g, cap, cur, h, _⟩
  · exact ⟨_, _, _, h⟩
  · exact ⟨_, _, _, h⟩

/-- The world behind the reader's first statements. -/
def w0 (w : World) (rb : Nat) (a : Int) (q : Nat) (b : Int) : World := ((w.drewN q).setCell ⟨rb, 1, none⟩ (.int .i64 (a + 1))).alloc (.cells #[.int .u8 b, .slice none 0 0, .string ⟨#[]⟩] 78)
theorem w0_bel (w : World) (rb q : Nat) (a b : Int) : Below w.heap.size (w.setCell ⟨rb, 1, none⟩ (.int .i64 (a + 1))) (((w.drewN q).setCell ⟨rb, 1, none⟩ (.int .i64 (a + 1))).alloc (.cells #[.int .u8 b, .slice none 0 0, .string ⟨#[]⟩] 78)) :=
  (show Below w.heap.size (w.setCell ⟨rb, 1, none⟩ (.int .i64 (a + 1))) ((w.drewN q).setCell ⟨rb, 1, none⟩ (.int .i64 (a + 1))) from ⟨rfl, rfl, rfl, Nat.le_refl _, fun _ _ => rfl⟩).alloc (by simp) _
theorem w0_all {w : World} {rb a : Nat} {s : ByteArray} {wide : Bool} (hrb : rb < w.heap.size) (hc0 : w.cell? ⟨rb, 0, none⟩ = some (.string s)) (hc1 : w.cell? ⟨rb, 1, none⟩ = some (.int .i64 (a : Int))) (hc2 : w.cell? ⟨rb, 2, none⟩ = some (.bool wide)) (hf1 : w.frozen? ⟨rb, 1, none⟩ = false) (q : Nat) (b : Int) :
    (fun W : World => W.cell? ⟨rb, 0, none⟩ = some (.string s) ∧ W.cell? ⟨rb, 1, none⟩ = some (.int .i64 ((a : Int) + 1)) ∧ W.cell? ⟨rb, 2, none⟩ = some (.bool wide) ∧ W.frozen? ⟨rb, 1, none⟩ = false ∧ W.heap.size = w.heap.size + 1 ∧
      W.heap[w.heap.size]? = some (.cells #[.int .u8 b, .slice none 0 0, .string (bs [])] 78) ∧ Below w.heap.size (w.setCell ⟨rb, 1, none⟩ (.int .i64 ((a : Int) + 1))) W)
    (((w.drewN q).setCell ⟨rb, 1, none⟩ (.int .i64 ((a : Int) + 1))).alloc (.cells #[.int .u8 b, .slice none 0 0, .string ⟨#[]⟩] 78)) := by
  have hb := w0_bel w rb q (a : Int) b
  obtain ⟨r0, r1, r2, r3⟩ := rd_cells (m := a + 1) hb hrb hc0 hc1 hc2 hf1
  refine ⟨r0, r1, r2, r3, by simp [World.alloc, World.setCell], ?_, hb⟩
  have e : w.heap.size = ((w.drewN q).setCell ⟨rb, 1, none⟩ (.int .i64 ((a : Int) + 1))).heap.size := by simp
  rw [e]
  exact heap_alloc_new _ _
theorem w0_wide {w : World} {rb : Nat} {wide : Bool} (hrb : rb < w.heap.size) (hc2 : w.cell? ⟨rb, 2, none⟩ = some (.bool wide)) (q : Nat) (a b : Int) : (((w.drewN q).setCell ⟨rb, 1, none⟩ (.int .i64 (a + 1))).alloc (.cells #[.int .u8 b, .slice none 0 0, .string ⟨#[]⟩] 78)).cell? ⟨rb, 2, none⟩ = some (.bool wide) := by
  rw [(w0_bel w rb q a b).cell hrb, World.cell?_setCell_other _ _ _ _ (by simp)]; exact hc2
theorem P_none {s : ByteArray} {wide : Bool} {sort a : Nat} (hlt : a < s.size) (h : wants wide sort s[a].toNat = none) : P wide [sort] (s.data.toList.drop a) = none := by
  rw [P_first (drop_at hlt), h]
theorem w0_blk (w : World) (rb q : Nat) (a b : Int) : (((w.drewN q).setCell ⟨rb, 1, none⟩ (.int .i64 (a + 1))).alloc (.cells #[.int .u8 b, .slice none 0 0, .string ⟨#[]⟩] 78)).heap[w.heap.size]? = some (.cells #[.int .u8 b, .slice none 0 0, .string (bs [])] 78) := by
  have e : w.heap.size = ((w.drewN q).setCell ⟨rb, 1, none⟩ (.int .i64 (a + 1))).heap.size := by simp
  rw [e]
  exact heap_alloc_new _ _
theorem rel_none {s : ByteArray} {wide : Bool} {rb sort a : Nat} {w : World} (hlt : a < s.size) (hrb : rb < w.heap.size) (q : Nat) (hw : wants wide sort s[a].toNat = some []) :
    ∃ ws m d qs v ad, Value.slice none 0 0 = .slice ad ws.length ws.length ∧ ws.length ≤ 3 ∧ (∀ x ∈ ws, x ≤ 2) ∧ Mid s wide rb sort a w s[a] ws m d qs v (((w.drewN q).setCell ⟨rb, 1, none⟩ (.int .i64 ((a : Int) + 1))).alloc (.cells #[.int .u8 (s[a].toNat : Int), .slice none 0 0, .string ⟨#[]⟩] 78)) ∧
      WantAt ad (((w.drewN q).setCell ⟨rb, 1, none⟩ (.int .i64 ((a : Int) + 1))).alloc (.cells #[.int .u8 (s[a].toNat : Int), .slice none 0 0, .string ⟨#[]⟩] 78)) v w.heap.size ws :=
  ⟨[], a + 1, .nil, [], .slice none 0 0, none, rfl, by decide, by simp, Mid.start hlt hw (w0_blk _ _ _ _ _) (w0_bel _ _ _ _ _), .inl ⟨rfl, rfl⟩⟩
theorem rel_some {s : ByteArray} {wide : Bool} {rb sort a : Nat} {w : World} (hlt : a < s.size) (hrb : rb < w.heap.size) (q : Nat) (ws : List Nat) (hw : wants wide sort s[a].toNat = some ws) (h3 : ws.length ≤ 3) (h2 : ∀ x ∈ ws, x ≤ 2) :
    ∃ ws' m d qs v ad, Value.slice (some ⟨w.heap.size + 1, 0, none⟩) ws.length ws.length = .slice ad ws'.length ws'.length ∧ ws'.length ≤ 3 ∧ (∀ x ∈ ws', x ≤ 2) ∧
      Mid s wide rb sort a w s[a] ws' m d qs v ((((w.drewN q).setCell ⟨rb, 1, none⟩ (.int .i64 ((a : Int) + 1))).alloc (.cells #[.int .u8 (s[a].toNat : Int), .slice none 0 0, .string ⟨#[]⟩] 78)).alloc (.cells (ws.map fun x : Nat => Value.int .i64 (x : Int)).toArray 3)) ∧
      WantAt ad ((((w.drewN q).setCell ⟨rb, 1, none⟩ (.int .i64 ((a : Int) + 1))).alloc (.cells #[.int .u8 (s[a].toNat : Int), .slice none 0 0, .string ⟨#[]⟩] 78)).alloc (.cells (ws.map fun x : Nat => Value.int .i64 (x : Int)).toArray 3)) v w.heap.size ws' := by
  have hsz : (((w.drewN q).setCell ⟨rb, 1, none⟩ (.int .i64 ((a : Int) + 1))).alloc (.cells #[.int .u8 (s[a].toNat : Int), .slice none 0 0, .string ⟨#[]⟩] 78)).heap.size = w.heap.size + 1 := by simp [World.alloc, World.setCell]
  refine ⟨ws, a + 1, .nil, [], .slice none 0 0, _, rfl, h3, h2, Mid.start hlt hw ?_ ((w0_bel _ _ _ _ _).alloc (by omega) _), .inr ⟨w.heap.size + 1, rfl, by omega, by simp [Value.ownBlock], fun j x hj => ?_⟩⟩
  · rw [Below.heap_alloc _ _ _ (by omega)]; exact w0_blk _ _ _ _ _
  · have := cell_of_block (heap_alloc_new (((w.drewN q).setCell ⟨rb, 1, none⟩ (.int .i64 ((a : Int) + 1))).alloc (.cells #[.int .u8 (s[a].toNat : Int), .slice none 0 0, .string ⟨#[]⟩] 78)) (.cells (ws.map fun x : Nat => Value.int .i64 (x : Int)).toArray 3)) j
    rw [hsz] at this
    rw [this]; simp [hj]
theorem below_both {B : Nat} {w w' : World} {rb : Nat} {v : Value} (h : Below B w w') : Below B (w.setCell ⟨rb, 1, none⟩ v) (w'.setCell ⟨rb, 1, none⟩ v) := by
  refine ⟨h.os, h.tape, h.output, by rw [size_set, size_set]; exact h.size, fun k hk => ?_⟩
  rw [setCell_heap, setCell_heap, h.block k hk]
theorem w2_all {w W : World} {rb a : Nat} {s : ByteArray} {wide : Bool} (hlt1 : a + 1 < s.size) (hrb : rb < w.heap.size) (hc0 : w.cell? ⟨rb, 0, none⟩ = some (.string s)) (hc1 : w.cell? ⟨rb, 1, none⟩ = some (.int .i64 (a : Int))) (hc2 : w.cell? ⟨rb, 2, none⟩ = some (.bool wide)) (hf1 : w.frozen? ⟨rb, 1, none⟩ = false)
    {o : Obj} (e4 : W.heap.size = w.heap.size + 1) (e5 : W.heap[w.heap.size]? = some o) (e6 : Below w.heap.size (w.setCell ⟨rb, 1, none⟩ (.int .i64 ((a : Int) + 1))) W) (q : Nat) :
    (fun W2 : World => W2.cell? ⟨rb, 0, none⟩ = some (.string s) ∧ W2.cell? ⟨rb, 1, none⟩ = some (.int .i64 ((a + 2 : Nat) : Int)) ∧ W2.cell? ⟨rb, 2, none⟩ = some (.bool wide) ∧ W2.frozen? ⟨rb, 1, none⟩ = false ∧
      W2.heap[w.heap.size]? = some o ∧ W2.heap[w.heap.size + 1]? = some (.cells #[.int .u8 (s[a + 1].toNat : Int), .slice none 0 0, .string (bs [s[a + 1]])] 78) ∧
      Below w.heap.size (w.setCell ⟨rb, 1, none⟩ (.int .i64 ((a + 2 : Nat) : Int))) W2)
    (((W.drewN q).setCell ⟨rb, 1, none⟩ (.int .i64 ((a : Int) + 1 + 1))).alloc (.cells #[.int .u8 (s[a + 1].toNat : Int), .slice none 0 0, .string (s.extract (a + 1) (a + 1 + 1))] 78)) := by
  rw [← World.setCell_alloc_past (hn := show rb < (W.drewN q).heap.size by show rb < W.heap.size; omega)]
  have ht : s.extract (a + 1) (a + 1 + 1) = bs [s[a + 1]] := by
    refine bs_of ?_
    simp only [ByteArray.data_extract, Array.toList_extract, List.extract_eq_take_drop]
    rw [drop_at hlt1, show a + 1 + 1 - (a + 1) = 1 by omega]; rfl
  have hi : ((a : Int) + 1 + 1) = ((a + 2 : Nat) : Int) := by omega
  rw [ht, hi]
  have hal : Below W.heap.size W ((W.drewN q).alloc (.cells #[.int .u8 (s[a + 1].toNat : Int), .slice none 0 0, .string (bs [s[a + 1]])] 78)) := (below_drewN (Below.refl _ _) q).alloc (Nat.le_refl _) _
  have hb := below_set e6 (below_both (rb := rb) (v := .int .i64 ((a + 2 : Nat) : Int)) hal |>.mono (Nat.le_refl _)) (by omega)
  obtain ⟨r0, r1, r2, r3⟩ := rd_cells (m := a + 2) hb hrb hc0 hc1 hc2 hf1
  refine ⟨r0, r1, r2, r3, ?_, ?_, hb⟩
  · rw [setCell_heap, if_neg (by show ¬ w.heap.size = rb; omega), Below.heap_alloc _ _ _ (by show _ < W.heap.size; omega)]; exact e5
  · rw [setCell_heap, if_neg (by show ¬ w.heap.size + 1 = rb; omega), ← e4]
    exact heap_alloc_new (W.drewN q) _
theorem still_there {w W w1 : World} {rb : Nat} {v x y z : Value} {t : TypeId} (hrb : rb < w.heap.size) (h : W.heap[w.heap.size]? = some (.cells #[x, y, z] t)) (hb1 : Below W.heap.size (W.setCell ⟨rb, 1, none⟩ v) w1) :
    w1.cell? ⟨w.heap.size, 1, none⟩ = some y ∧ w1.frozen? ⟨w.heap.size, 1, none⟩ = false ∧ w.heap.size < w1.heap.size := by
  have hl := lt_of_block h
  have e : w1.heap[w.heap.size]? = some (.cells #[x, y, z] t) := by rw [hb1.block _ hl, setCell_heap, if_neg (by show ¬ w.heap.size = rb; omega)]; exact h
  exact ⟨cell_of_block e 1, frozen_of_block e 1, lt_of_block e⟩
theorem wp_world {P : Program} {c : Code} {Q : Exit → Act → World → Prop} {a : Act} {w : World} (R : World → Prop) (h : R w) (k : ∀ W, R W → c.wp P Q a W) : c.wp P Q a w := k w h

theorem infoTree : (Try.prog.info? 31).map (fun i => (i.zero, i.size, i.bytes)) = some (some (.pointer none), 1, 8) := by kernel_rfl

set_option maxRecDepth 100000 in
set_option maxHeartbeats 8000000 in
theorem implReadEnd (s : ByteArray) (hs : s.size ≤ 1000) (wide : Bool) (rb : Nat) (sort a : Nat) (w : World) (ha : a = s.size)
    (hc0 : w.cell? ⟨rb, 0, none⟩ = some (.string s)) (hc1 : w.cell? ⟨rb, 1, none⟩ = some (.int .i64 (a : Int))) :
    Calls Try.prog 23 #[.pointer (some ⟨rb, 0, none⟩), .int .i64 (sort : Int)] w (RdPost rb s wide sort a w) := by
  subst ha
  have HP := Lib.hid (show P wide [sort] (s.data.toList.drop s.size) = none by rw [List.drop_of_length_le (by simp), P_end])
  go_enter Try.func23, Try.ntmps23
  go_wp2
  go_quiet (fail)
  go_wp2
  go_ret
  exact .inl ⟨HP.out, rfl, s.size, below_self hc1 (below_drewN (Below.refl _ _) _)⟩

set_option maxRecDepth 100000 in
set_option maxHeartbeats 40000000 in
theorem implReadStep (s : ByteArray) (hs : s.size ≤ 1000) (wide : Bool) (rb : Nat) (n : Nat) 
    (ih : ∀ (sort a : Nat) (w : World), sort ≤ 2 → s.size ≤ a + n → a ≤ s.size →
      w.cell? ⟨rb, 0, none⟩ = some (.string s) → w.cell? ⟨rb, 1, none⟩ = some (.int .i64 (a : Int)) → w.cell? ⟨rb, 2, none⟩ = some (.bool wide) → w.frozen? ⟨rb, 1, none⟩ = false →
      Calls Try.prog 23 #[.pointer (some ⟨rb, 0, none⟩), .int .i64 (sort : Int)] w (RdPost rb s wide sort a w))
    (sort a : Nat) (w : World) (hsort : sort ≤ 2) (hn : s.size ≤ a + (n + 1)) (hlt : a < s.size)
    (hc0 : w.cell? ⟨rb, 0, none⟩ = some (.string s)) (hc1 : w.cell? ⟨rb, 1, none⟩ = some (.int .i64 (a : Int))) (hc2 : w.cell? ⟨rb, 2, none⟩ = some (.bool wide)) (hf1 : w.frozen? ⟨rb, 1, none⟩ = false) :
    Calls Try.prog 23 #[.pointer (some ⟨rb, 0, none⟩), .int .i64 (sort : Int)] w (RdPost rb s wide sort a w) := by
  have hrb : rb < w.heap.size := lt_of_cell hc0
  have IH := Lib.hid ih; clear ih
  have h1 : (a : Int) < s.size := by omega
  have h2 : decide ((s.size : Int) ≤ a) = false := by simp; omega
  obtain ⟨i0, hi, hz0, hz1, hz2⟩ := info_parts infoTree
  go_enter Try.func23, Try.ntmps23
  go_wp2_with fail
  go_quiet (fail)
  go_upto_region 4 with fail
  go_quiet (fail)
  go_upto_block 0 with fail
  go_cut [8] (fun u8 wx => ∃ ws m d qs v ad, u8 = .slice ad ws.length ws.length ∧ ws.length ≤ 3 ∧ (∀ x ∈ ws, x ≤ 2) ∧ Mid s wide rb sort a w s[a] ws m d qs v wx ∧ WantAt ad wx v w.heap.size ws)
  case first =>
    rcases (show sort = 0 ∨ sort = 1 ∨ sort = 2 by omega) with rfl | rfl | rfl
    · cases cv : vrB wide s[a].toNat with
      | true =>
        have HW := Lib.hid (show wants wide 0 s[a].toNat = some [] by simp [wants, cv])
        have HV := Lib.hid cv
        clear cv
        go_wp2_with (go_at_call 30; refine (implVariable rb s[a] wide _ (w0_wide hrb hc2 _ _ _)).mono ?_; rintro e w' ⟨rfl, rfl⟩; rw [HV.out])
        all_goals first
          | (exfalso; omega)
          | (go_meet; exact rel_none hlt hrb _ HW.out)
      | false =>
        by_cases h48 : 48 ≤ s[a].toNat ∧ s[a].toNat ≤ 50
        · have HW := Lib.hid (show wants wide 0 s[a].toNat = some [] by simp [wants, dgB, cv, h48.1, h48.2])
          have k48 : (48 : Int) ≤ (s[a].toNat : Int) := by omega
          have k50 : (s[a].toNat : Int) ≤ 50 := by omega
          have HV := Lib.hid cv
          clear cv
          go_wp2_with (go_at_call 30; refine (implVariable rb s[a] wide _ (w0_wide hrb hc2 _ _ _)).mono ?_; rintro e w' ⟨rfl, rfl⟩; rw [HV.out])
          all_goals first
            | (exfalso; omega)
            | (go_meet; exact rel_none hlt hrb _ HW.out)
        · have hd : dgB s[a].toNat = false := by simp [dgB]; omega
          by_cases ho : s[a].toNat = 43 ∨ s[a].toNat = 45 ∨ s[a].toNat = 42
          · rcases ho with ho | ho | ho
            · have HW := Lib.hid (show wants wide 0 s[a].toNat = some [0, 0] by simp only [wants, cv, hd]; simp [ho])
              have g43 : ((s[a].toNat : Int) == 43) = true := by simp; omega
              have g45 : ((s[a].toNat : Int) == 45) = false := by simp; omega
              have g42 : ((s[a].toNat : Int) == 42) = false := by simp; omega
              have k48 : (s[a].toNat : Int) < 48 := by omega
              clear ho h48 hd
              have HV := Lib.hid cv
              clear cv
              go_wp2_with (go_at_call 30; refine (implVariable rb s[a] wide _ (w0_wide hrb hc2 _ _ _)).mono ?_; rintro e w' ⟨rfl, rfl⟩; rw [HV.out])
              all_goals first
                | (exfalso; omega)
                | (go_meet; exact rel_some hlt hrb _ [0, 0] HW.out (by decide) (by decide))
            · have HW := Lib.hid (show wants wide 0 s[a].toNat = some [0, 0] by simp only [wants, cv, hd]; simp [ho])
              have g43 : ((s[a].toNat : Int) == 43) = false := by simp; omega
              have g45 : ((s[a].toNat : Int) == 45) = true := by simp; omega
              have g42 : ((s[a].toNat : Int) == 42) = false := by simp; omega
              have k48 : (s[a].toNat : Int) < 48 := by omega
              clear ho h48 hd
              have HV := Lib.hid cv
              clear cv
              go_wp2_with (go_at_call 30; refine (implVariable rb s[a] wide _ (w0_wide hrb hc2 _ _ _)).mono ?_; rintro e w' ⟨rfl, rfl⟩; rw [HV.out])
              all_goals first
                | (exfalso; omega)
                | (go_meet; exact rel_some hlt hrb _ [0, 0] HW.out (by decide) (by decide))
            · have HW := Lib.hid (show wants wide 0 s[a].toNat = some [0, 0] by simp only [wants, cv, hd]; simp [ho])
              have g43 : ((s[a].toNat : Int) == 43) = false := by simp; omega
              have g45 : ((s[a].toNat : Int) == 45) = false := by simp; omega
              have g42 : ((s[a].toNat : Int) == 42) = true := by simp; omega
              have k48 : (s[a].toNat : Int) < 48 := by omega
              clear ho h48 hd
              have HV := Lib.hid cv
              clear cv
              go_wp2_with (go_at_call 30; refine (implVariable rb s[a] wide _ (w0_wide hrb hc2 _ _ _)).mono ?_; rintro e w' ⟨rfl, rfl⟩; rw [HV.out])
              all_goals first
                | (exfalso; omega)
                | (go_meet; exact rel_some hlt hrb _ [0, 0] HW.out (by decide) (by decide))
          · have HP := Lib.hid (P_none hlt (show wants wide 0 s[a].toNat = none by simp [wants, cv, hd, ho]))
            have g43 : ((s[a].toNat : Int) == 43) = false := by simp; omega
            have g45 : ((s[a].toNat : Int) == 45) = false := by simp; omega
            have g42 : ((s[a].toNat : Int) == 42) = false := by simp; omega
            clear ho
            have HV := Lib.hid cv
            clear cv
            go_wp2_with (go_at_call 30; refine (implVariable rb s[a] wide _ (w0_wide hrb hc2 _ _ _)).mono ?_; rintro e w' ⟨rfl, rfl⟩; rw [HV.out])
            all_goals first
              | (exfalso; omega)
              | (go_ret; exact .inl ⟨HP.out, rfl, (a : Int) + 1, w0_bel w _ _ _ _⟩)
    · rcases (show s[a].toNat = 116 ∨ s[a].toNat = 102 ∨ s[a].toNat = 61 ∨ s[a].toNat = 60 ∨ s[a].toNat = 33 ∨ s[a].toNat = 38 ∨ s[a].toNat = 124 ∨ (¬ s[a].toNat = 116 ∧ ¬ s[a].toNat = 102 ∧ ¬ s[a].toNat = 61 ∧ ¬ s[a].toNat = 60 ∧ ¬ s[a].toNat = 33 ∧ ¬ s[a].toNat = 38 ∧ ¬ s[a].toNat = 124) by omega) with hb | hb | hb | hb | hb | hb | hb | hb
      · have HW := Lib.hid (show wants wide 1 s[a].toNat = some [] by simp [wants, hb])
        have g116 : ((s[a].toNat : Int) == 116) = true := by simp; omega
        have g102 : ((s[a].toNat : Int) == 102) = false := by simp; omega
        have g61 : ((s[a].toNat : Int) == 61) = false := by simp; omega
        have g60 : ((s[a].toNat : Int) == 60) = false := by simp; omega
        have g33 : ((s[a].toNat : Int) == 33) = false := by simp; omega
        have g38 : ((s[a].toNat : Int) == 38) = false := by simp; omega
        have g124 : ((s[a].toNat : Int) == 124) = false := by simp; omega
        clear hb
        go_wp2_with fail
        all_goals first
          | (exfalso; omega)
          | (go_meet; exact rel_none hlt hrb _ HW.out)
      · have HW := Lib.hid (show wants wide 1 s[a].toNat = some [] by simp [wants, hb])
        have g116 : ((s[a].toNat : Int) == 116) = false := by simp; omega
        have g102 : ((s[a].toNat : Int) == 102) = true := by simp; omega
        have g61 : ((s[a].toNat : Int) == 61) = false := by simp; omega
        have g60 : ((s[a].toNat : Int) == 60) = false := by simp; omega
        have g33 : ((s[a].toNat : Int) == 33) = false := by simp; omega
        have g38 : ((s[a].toNat : Int) == 38) = false := by simp; omega
        have g124 : ((s[a].toNat : Int) == 124) = false := by simp; omega
        clear hb
        go_wp2_with fail
        all_goals first
          | (exfalso; omega)
          | (go_meet; exact rel_none hlt hrb _ HW.out)
      · have HW := Lib.hid (show wants wide 1 s[a].toNat = some [0, 0] by simp [wants, hb])
        have g116 : ((s[a].toNat : Int) == 116) = false := by simp; omega
        have g102 : ((s[a].toNat : Int) == 102) = false := by simp; omega
        have g61 : ((s[a].toNat : Int) == 61) = true := by simp; omega
        have g60 : ((s[a].toNat : Int) == 60) = false := by simp; omega
        have g33 : ((s[a].toNat : Int) == 33) = false := by simp; omega
        have g38 : ((s[a].toNat : Int) == 38) = false := by simp; omega
        have g124 : ((s[a].toNat : Int) == 124) = false := by simp; omega
        clear hb
        go_wp2_with fail
        all_goals first
          | (exfalso; omega)
          | (go_meet; exact rel_some hlt hrb _ [0, 0] HW.out (by decide) (by decide))
      · have HW := Lib.hid (show wants wide 1 s[a].toNat = some [0, 0] by simp [wants, hb])
        have g116 : ((s[a].toNat : Int) == 116) = false := by simp; omega
        have g102 : ((s[a].toNat : Int) == 102) = false := by simp; omega
        have g61 : ((s[a].toNat : Int) == 61) = false := by simp; omega
        have g60 : ((s[a].toNat : Int) == 60) = true := by simp; omega
        have g33 : ((s[a].toNat : Int) == 33) = false := by simp; omega
        have g38 : ((s[a].toNat : Int) == 38) = false := by simp; omega
        have g124 : ((s[a].toNat : Int) == 124) = false := by simp; omega
        clear hb
        go_wp2_with fail
        all_goals first
          | (exfalso; omega)
          | (go_meet; exact rel_some hlt hrb _ [0, 0] HW.out (by decide) (by decide))
      · have HW := Lib.hid (show wants wide 1 s[a].toNat = some [1] by simp [wants, hb])
        have g116 : ((s[a].toNat : Int) == 116) = false := by simp; omega
        have g102 : ((s[a].toNat : Int) == 102) = false := by simp; omega
        have g61 : ((s[a].toNat : Int) == 61) = false := by simp; omega
        have g60 : ((s[a].toNat : Int) == 60) = false := by simp; omega
        have g33 : ((s[a].toNat : Int) == 33) = true := by simp; omega
        have g38 : ((s[a].toNat : Int) == 38) = false := by simp; omega
        have g124 : ((s[a].toNat : Int) == 124) = false := by simp; omega
        clear hb
        go_wp2_with fail
        all_goals first
          | (exfalso; omega)
          | (go_meet; exact rel_some hlt hrb _ [1] HW.out (by decide) (by decide))
      · have HW := Lib.hid (show wants wide 1 s[a].toNat = some [1, 1] by simp [wants, hb])
        have g116 : ((s[a].toNat : Int) == 116) = false := by simp; omega
        have g102 : ((s[a].toNat : Int) == 102) = false := by simp; omega
        have g61 : ((s[a].toNat : Int) == 61) = false := by simp; omega
        have g60 : ((s[a].toNat : Int) == 60) = false := by simp; omega
        have g33 : ((s[a].toNat : Int) == 33) = false := by simp; omega
        have g38 : ((s[a].toNat : Int) == 38) = true := by simp; omega
        have g124 : ((s[a].toNat : Int) == 124) = false := by simp; omega
        clear hb
        go_wp2_with fail
        all_goals first
          | (exfalso; omega)
          | (go_meet; exact rel_some hlt hrb _ [1, 1] HW.out (by decide) (by decide))
      · have HW := Lib.hid (show wants wide 1 s[a].toNat = some [1, 1] by simp [wants, hb])
        have g116 : ((s[a].toNat : Int) == 116) = false := by simp; omega
        have g102 : ((s[a].toNat : Int) == 102) = false := by simp; omega
        have g61 : ((s[a].toNat : Int) == 61) = false := by simp; omega
        have g60 : ((s[a].toNat : Int) == 60) = false := by simp; omega
        have g33 : ((s[a].toNat : Int) == 33) = false := by simp; omega
        have g38 : ((s[a].toNat : Int) == 38) = false := by simp; omega
        have g124 : ((s[a].toNat : Int) == 124) = true := by simp; omega
        clear hb
        go_wp2_with fail
        all_goals first
          | (exfalso; omega)
          | (go_meet; exact rel_some hlt hrb _ [1, 1] HW.out (by decide) (by decide))
      · have HP := Lib.hid (P_none hlt (show wants wide 1 s[a].toNat = none by simp [wants, hb]))
        have g116 : ((s[a].toNat : Int) == 116) = false := by simp; omega
        have g102 : ((s[a].toNat : Int) == 102) = false := by simp; omega
        have g61 : ((s[a].toNat : Int) == 61) = false := by simp; omega
        have g60 : ((s[a].toNat : Int) == 60) = false := by simp; omega
        have g33 : ((s[a].toNat : Int) == 33) = false := by simp; omega
        have g38 : ((s[a].toNat : Int) == 38) = false := by simp; omega
        have g124 : ((s[a].toNat : Int) == 124) = false := by simp; omega
        clear hb
        go_wp2_with fail
        all_goals first
          | (exfalso; omega)
          | (go_ret; exact .inl ⟨HP.out, rfl, (a : Int) + 1, w0_bel w _ _ _ _⟩)
    · rcases (show s[a].toNat = 115 ∨ s[a].toNat = 97 ∨ s[a].toNat = 59 ∨ s[a].toNat = 47 ∨ s[a].toNat = 63 ∨ s[a].toNat = 64 ∨ s[a].toNat = 126 ∨ (¬ s[a].toNat = 115 ∧ ¬ s[a].toNat = 97 ∧ ¬ s[a].toNat = 59 ∧ ¬ s[a].toNat = 47 ∧ ¬ s[a].toNat = 63 ∧ ¬ s[a].toNat = 64 ∧ ¬ s[a].toNat = 126) by omega) with hb | hb | hb | hb | hb | hb | hb | hb
      · have HW := Lib.hid (show wants wide 2 s[a].toNat = some [] by simp [wants, hb])
        have g115 : ((s[a].toNat : Int) == 115) = true := by simp; omega
        have g97 : ((s[a].toNat : Int) == 97) = false := by simp; omega
        have g59 : ((s[a].toNat : Int) == 59) = false := by simp; omega
        have g47 : ((s[a].toNat : Int) == 47) = false := by simp; omega
        have g63 : ((s[a].toNat : Int) == 63) = false := by simp; omega
        have g64 : ((s[a].toNat : Int) == 64) = false := by simp; omega
        have g126 : ((s[a].toNat : Int) == 126) = false := by simp; omega
        clear hb
        go_wp2_with fail
        all_goals first
          | (exfalso; omega)
          | (go_meet; exact rel_none hlt hrb _ HW.out)
      · have hb' := Lib.hid hb
        have g115 : ((s[a].toNat : Int) == 115) = false := by simp; omega
        have g97 : ((s[a].toNat : Int) == 97) = true := by simp; omega
        have g59 : ((s[a].toNat : Int) == 59) = false := by simp; omega
        have g47 : ((s[a].toNat : Int) == 47) = false := by simp; omega
        have g63 : ((s[a].toNat : Int) == 63) = false := by simp; omega
        have g64 : ((s[a].toNat : Int) == 64) = false := by simp; omega
        have g126 : ((s[a].toNat : Int) == 126) = false := by simp; omega
        clear hb
        go_upto_region 13 with fail
        refine wp_world (fun W => W.cell? ⟨rb, 0, none⟩ = some (.string s) ∧ W.cell? ⟨rb, 1, none⟩ = some (.int .i64 ((a : Int) + 1)) ∧ W.cell? ⟨rb, 2, none⟩ = some (.bool wide) ∧ W.frozen? ⟨rb, 1, none⟩ = false ∧ W.heap.size = w.heap.size + 1 ∧
          W.heap[w.heap.size]? = some (.cells #[.int .u8 (s[a].toNat : Int), .slice none 0 0, .string (bs [])] 78) ∧ Below w.heap.size (w.setCell ⟨rb, 1, none⟩ (.int .i64 ((a : Int) + 1))) W) (w0_all hrb hc0 hc1 hc2 hf1 _ _) ?_
        rintro W ⟨e0, e1, e2, e3, e4, e5, e6⟩
        by_cases hz : a + 1 = s.size
        · have HP := Lib.hid (P_assign_no (wide := wide) hlt hb'.out (.inl hz))
          have d1 : (s.size : Int) ≤ (a : Int) + 1 := by omega
          have d2 : decide ((s.size : Int) ≤ (a : Int) + 1) = true := by simp; omega
          go_quiet (fail)
          go_wp2_with fail
          go_ret
          exact .inl ⟨HP.out, rfl, (a : Int) + 1, below_drewN e6 _⟩
        · have hlt1 : a + 1 < s.size := by omega
          have d1 : (a : Int) + 1 < (s.size : Int) := by omega
          have d2 : decide ((s.size : Int) ≤ (a : Int) + 1) = false := by simp; omega
          have d3 : ((a : Int) + 1).toNat = a + 1 := by omega
          have d4 : (0 : Int) ≤ (a : Int) + 1 := by omega
          cases cv : vrB wide s[a + 1].toNat with
          | false =>
            have HP := Lib.hid (P_assign_no (wide := wide) hlt hb'.out (.inr ⟨hlt1, cv⟩))
            have HV := Lib.hid cv
            clear cv
            have hvc : ∀ q, Calls Try.prog 30 #[.pointer (some ⟨rb, 0, none⟩), .int .u8 (s[a + 1].toNat : Int)] (W.drewN q) fun e w' => e = .returned (.bool false) ∧ w' = W.drewN q := fun q => (implVariable rb s[a + 1] wide (W.drewN q) e2).mono (fun e w' h => ⟨by rw [h.1, HV.out], h.2.symm⟩)
            have HVC := Lib.hid hvc
            clear hvc
            go_quiet (first | (go_at_call 30; exact Calls.quiet_of_same (HVC.out _)))
            go_wp2_with fail
            go_ret
            exact .inl ⟨HP.out, rfl, (a : Int) + 1, below_drewN e6 _⟩
          | true =>
            have HV := Lib.hid cv
            clear cv
            have hvc : ∀ q, Calls Try.prog 30 #[.pointer (some ⟨rb, 0, none⟩), .int .u8 (s[a + 1].toNat : Int)] (W.drewN q) fun e w' => e = .returned (.bool true) ∧ w' = W.drewN q := fun q => (implVariable rb s[a + 1] wide (W.drewN q) e2).mono (fun e w' h => ⟨by rw [h.1, HV.out], h.2.symm⟩)
            have HVC := Lib.hid hvc
            clear hvc
            go_quiet (first | (go_at_call 30; exact Calls.quiet_of_same (HVC.out _)))
            go_upto_region 15 with fail
            have d5 : (a : Int) + 1 ≤ (a : Int) + 1 + 1 := by omega
            have d6 : (a : Int) + 1 + 1 ≤ (s.size : Int) := by omega
            go_region
            go_upto_region 17 with fail
            refine wp_world (fun W2 => W2.cell? ⟨rb, 0, none⟩ = some (.string s) ∧ W2.cell? ⟨rb, 1, none⟩ = some (.int .i64 ((a + 2 : Nat) : Int)) ∧ W2.cell? ⟨rb, 2, none⟩ = some (.bool wide) ∧ W2.frozen? ⟨rb, 1, none⟩ = false ∧
              W2.heap[w.heap.size]? = some (.cells #[.int .u8 (s[a].toNat : Int), .slice none 0 0, .string (bs [])] 78) ∧ W2.heap[w.heap.size + 1]? = some (.cells #[.int .u8 (s[a + 1].toNat : Int), .slice none 0 0, .string (bs [s[a + 1]])] 78) ∧
              Below w.heap.size (w.setCell ⟨rb, 1, none⟩ (.int .i64 ((a + 2 : Nat) : Int))) W2) (w2_all hlt1 hrb hc0 hc1 hc2 hf1 e4 e5 e6 _) ?_
            rintro W2 ⟨m0, m1, m2, m3, m5, m6, m7⟩
            have hcall := Lib.hid (IH.out 0 (a + 2) W2 (by omega) (by omega) (by omega) m0 m1 m2 m3)
            clear e0 e1 e2 e3 e4 e5 e6 HVC
            go_wp2_with fail
            refine (hcall.out).mono ?_
            rintro e w1 (⟨hP1, rfl, a', hb1⟩ | ⟨b1, k1, r, p, hP1, rfl, hin1, hb1⟩)
            · have HP := Lib.hid (show P wide [2] (s.data.toList.drop a) = none by rw [P_assign hlt hb'.out hlt1 HV.out, hP1]; rfl)
              clear hP1
              go_wp2_with fail
              go_ret
              exact .inl ⟨HP.out, rfl, a', below_set m7 hb1 (by have := lt_of_block m5; omega)⟩
            · have HX := Lib.hid hP1
              clear hP1
              obtain ⟨c1, f1, z1⟩ := still_there hrb m5 hb1
              have M5 := Lib.hid m5; have M6 := Lib.hid m6
              clear m5 m6
              go_wp2_with fail
              go_meet
              rw [← World.setCell_alloc_past (hn := z1)]
              exact ⟨[], _, _, _, _, none, rfl, by decide, by simp, Mid.assign hlt hb'.out hlt1 HV.out hrb HX.out hin1 m7 hb1 M5.out M6.out, .inl ⟨rfl, rfl⟩⟩
      · have HW := Lib.hid (show wants wide 2 s[a].toNat = some [2, 2] by simp [wants, hb])
        have g115 : ((s[a].toNat : Int) == 115) = false := by simp; omega
        have g97 : ((s[a].toNat : Int) == 97) = false := by simp; omega
        have g59 : ((s[a].toNat : Int) == 59) = true := by simp; omega
        have g47 : ((s[a].toNat : Int) == 47) = false := by simp; omega
        have g63 : ((s[a].toNat : Int) == 63) = false := by simp; omega
        have g64 : ((s[a].toNat : Int) == 64) = false := by simp; omega
        have g126 : ((s[a].toNat : Int) == 126) = false := by simp; omega
        clear hb
        go_wp2_with fail
        all_goals first
          | (exfalso; omega)
          | (go_meet; exact rel_some hlt hrb _ [2, 2] HW.out (by decide) (by decide))
      · have HW := Lib.hid (show wants wide 2 s[a].toNat = some [2, 2] by simp [wants, hb])
        have g115 : ((s[a].toNat : Int) == 115) = false := by simp; omega
        have g97 : ((s[a].toNat : Int) == 97) = false := by simp; omega
        have g59 : ((s[a].toNat : Int) == 59) = false := by simp; omega
        have g47 : ((s[a].toNat : Int) == 47) = true := by simp; omega
        have g63 : ((s[a].toNat : Int) == 63) = false := by simp; omega
        have g64 : ((s[a].toNat : Int) == 64) = false := by simp; omega
        have g126 : ((s[a].toNat : Int) == 126) = false := by simp; omega
        clear hb
        go_wp2_with fail
        all_goals first
          | (exfalso; omega)
          | (go_meet; exact rel_some hlt hrb _ [2, 2] HW.out (by decide) (by decide))
      · have HW := Lib.hid (show wants wide 2 s[a].toNat = some [1, 2, 2] by simp [wants, hb])
        have g115 : ((s[a].toNat : Int) == 115) = false := by simp; omega
        have g97 : ((s[a].toNat : Int) == 97) = false := by simp; omega
        have g59 : ((s[a].toNat : Int) == 59) = false := by simp; omega
        have g47 : ((s[a].toNat : Int) == 47) = false := by simp; omega
        have g63 : ((s[a].toNat : Int) == 63) = true := by simp; omega
        have g64 : ((s[a].toNat : Int) == 64) = false := by simp; omega
        have g126 : ((s[a].toNat : Int) == 126) = false := by simp; omega
        clear hb
        go_wp2_with fail
        all_goals first
          | (exfalso; omega)
          | (go_meet; exact rel_some hlt hrb _ [1, 2, 2] HW.out (by decide) (by decide))
      · have HW := Lib.hid (show wants wide 2 s[a].toNat = some [1, 2] by simp [wants, hb])
        have g115 : ((s[a].toNat : Int) == 115) = false := by simp; omega
        have g97 : ((s[a].toNat : Int) == 97) = false := by simp; omega
        have g59 : ((s[a].toNat : Int) == 59) = false := by simp; omega
        have g47 : ((s[a].toNat : Int) == 47) = false := by simp; omega
        have g63 : ((s[a].toNat : Int) == 63) = false := by simp; omega
        have g64 : ((s[a].toNat : Int) == 64) = true := by simp; omega
        have g126 : ((s[a].toNat : Int) == 126) = false := by simp; omega
        clear hb
        go_wp2_with fail
        all_goals first
          | (exfalso; omega)
          | (go_meet; exact rel_some hlt hrb _ [1, 2] HW.out (by decide) (by decide))
      · have HW := Lib.hid (show wants wide 2 s[a].toNat = some [1] by simp [wants, hb])
        have g115 : ((s[a].toNat : Int) == 115) = false := by simp; omega
        have g97 : ((s[a].toNat : Int) == 97) = false := by simp; omega
        have g59 : ((s[a].toNat : Int) == 59) = false := by simp; omega
        have g47 : ((s[a].toNat : Int) == 47) = false := by simp; omega
        have g63 : ((s[a].toNat : Int) == 63) = false := by simp; omega
        have g64 : ((s[a].toNat : Int) == 64) = false := by simp; omega
        have g126 : ((s[a].toNat : Int) == 126) = true := by simp; omega
        clear hb
        go_wp2_with fail
        all_goals first
          | (exfalso; omega)
          | (go_meet; exact rel_some hlt hrb _ [1] HW.out (by decide) (by decide))
      · have HP := Lib.hid (P_none hlt (show wants wide 2 s[a].toNat = none by simp [wants, hb]))
        have g115 : ((s[a].toNat : Int) == 115) = false := by simp; omega
        have g97 : ((s[a].toNat : Int) == 97) = false := by simp; omega
        have g59 : ((s[a].toNat : Int) == 59) = false := by simp; omega
        have g47 : ((s[a].toNat : Int) == 47) = false := by simp; omega
        have g63 : ((s[a].toNat : Int) == 63) = false := by simp; omega
        have g64 : ((s[a].toNat : Int) == 64) = false := by simp; omega
        have g126 : ((s[a].toNat : Int) == 126) = false := by simp; omega
        clear hb
        go_wp2_with fail
        all_goals first
          | (exfalso; omega)
          | (go_ret; exact .inl ⟨HP.out, rfl, (a : Int) + 1, w0_bel w _ _ _ _⟩)
  case rest =>
    obtain ⟨ws, m0, d0, qs0, v0, ad, rfl, hw3, hws2, hmid0, hwant0⟩ := hcut
    go_wp2_with fail
    go_loopw [177] (fun i wr => ∃ k m d qs v, k ≤ ws.length ∧ i = .int .i64 (k : Nat) ∧ Mid s wide rb sort a w s[a] (ws.drop k) m d qs v wr ∧ WantAt ad wr v w.heap.size ws) (fun i _ => ws.length - (intOf i).toNat)
    case atStart => exact ⟨0, m0, d0, qs0, v0, Nat.zero_le _, rfl, hmid0, hwant0⟩
    case round =>
      obtain ⟨k, m, d, qs, v, hk, rfl, hmid, hwant⟩ := hrel
      by_cases hkl : k < ws.length
      · obtain ⟨x, hx⟩ : ∃ x, ws[k]? = some x := ⟨ws[k], List.getElem?_eq_getElem hkl⟩
        have hx2 : x ≤ 2 := hws2 x (List.mem_of_getElem? hx)
        have hdr : ws.drop k = x :: ws.drop (k + 1) := by
          rw [List.drop_eq_getElem_cons hkl]; congr 1; rw [List.getElem?_eq_getElem hkl] at hx; exact Option.some.inj hx
        rcases hwant with ⟨hwn, _⟩ | ⟨g, rfl, hgB, hgv, hgc⟩
        · subst hwn; simp at hkl
        have hcx := hgc k x hx
        obtain ⟨r0, r1, r2, r3⟩ := rd_cells hmid.bel hrb hc0 hc1 hc2 hf1
        have hcall := Lib.hid (IH.out x m wr hx2 (by have := hmid.ham; omega) hmid.hm r0 r1 r2 r3)
        have hkl' : (k : Int) < (ws.length : Int) := by omega
        have hk0 : (0 : Int) ≤ (k : Int) := by omega
        have hmono := Lib.hid (hmid.bad hdr)
        have HM := Lib.hid hmid
        have HD := Lib.hid hdr
        have HG := Lib.hid hgc
        have HW := Lib.hid hws2
        clear hmid hdr hgc hws2 hx hmid0 hwant0
        go_wp2_with fail
        refine (hcall.out).mono ?_
        rintro e w1 (⟨hP1, rfl, a', hb1⟩ | ⟨b1, k1, r, p, hP1, rfl, hin1, hb1⟩)
        · have HP := Lib.hid (hmono.out hP1)
          clear hP1
          go_wp2_with fail
          go_ret
          exact .inl ⟨HP.out, rfl, a', below_set HM.out.bel hb1 (by have := HM.out.big; omega)⟩
        · have HP := Lib.hid hP1
          obtain ⟨c1, f1, o1, z1, l1, n1⟩ := kid_facts hs hrb HM.out hb1
          have O1 := Lib.hid o1
          clear hP1 o1
          go_wp2_with (at_builtin; refine wpList_append_kid rfl (.tmp 190) (.tmp 192) 76 rfl (w.heap.size + 1) 31 i0 (.pointer none) Try.underlying76 hi hz0 hz1 hz2 rfl v qs p rfl (O1.out.alloc _) ⟨w1.heap.size, 0, none⟩ 1 rfl (cell_one_new _ _ _ 0 _ rfl) l1 (by simp; omega) ?_; intro v' w3 hown3 hg3 hv3; obtain ⟨c3, f3⟩ := after_append hg3 n1 (u := v) (o := 1) ((((Below.refl _ w1).alloc (Nat.le_refl _) _).cell (p := ⟨w.heap.size, 1, none⟩) z1).trans c1) ((((Below.refl _ w1).alloc (Nat.le_refl _) _).frozen (p := ⟨w.heap.size, 1, none⟩) z1).trans f1); obtain ⟨ad', n', c', rfl⟩ := own_form hown3)
          go_roundw
          case rel => exact ⟨k + 1, _, _, _, _, by omega, by go_num, HM.out.next HD.out hrb HP.out hin1 hb1 ((Below.refl _ _).alloc (Nat.le_refl _) _) hown3 hg3 hv3, want_next hrb hgB hgv (lt_of_cell hcx) HG.out hb1 ((Below.refl _ _).alloc (Nat.le_refl _) _) hg3 hv3⟩
          case measure => simp [intOf]; omega
      · obtain rfl : k = ws.length := by omega
        rw [List.drop_of_length_le (Nat.le_refl _)] at hmid
        obtain ⟨t1, t2, t3⟩ := hmid.text
        obtain ⟨b0, b1, b2⟩ := hmid.cell0
        obtain ⟨r0, r1, r2, r3⟩ := rd_cells hmid.bel hrb hc0 hc1 hc2 hf1
        have hfz := frozen_of_block hmid.blk 2
        have q1 : (a : Int) ≤ (m : Int) := by omega
        have q2 : (m : Int) ≤ (s.size : Int) := by omega
        go_wp2_with fail
        go_region
        go_wp2_with fail
        go_ret
        exact hmid.done (Below.refl _ _).drew

theorem implRead (s : ByteArray) (hs : s.size ≤ 1000) (wide : Bool) (rb : Nat) (n : Nat) : ∀ (sort a : Nat) (w : World), sort ≤ 2 → s.size ≤ a + n → a ≤ s.size →
    w.cell? ⟨rb, 0, none⟩ = some (.string s) → w.cell? ⟨rb, 1, none⟩ = some (.int .i64 (a : Int)) → w.cell? ⟨rb, 2, none⟩ = some (.bool wide) → w.frozen? ⟨rb, 1, none⟩ = false →
    Calls Try.prog 23 #[.pointer (some ⟨rb, 0, none⟩), .int .i64 (sort : Int)] w (RdPost rb s wide sort a w) := by
  induction n with
  | zero =>
    intro sort a w hsort hn ha hc0 hc1 hc2 hf1
    exact implReadEnd s hs wide rb sort a w (by omega) hc0 hc1
  | succ n ih =>
    intro sort a w hsort hn ha hc0 hc1 hc2 hf1
    by_cases hlt : a < s.size
    · exact implReadStep s hs wide rb n ih sort a w hsort (by omega) hlt hc0 hc1 hc2 hf1
    · exact implReadEnd s hs wide rb sort a w (by omega) hc0 hc1
end Go.Proofs.Ytnhdnfanjefglaa.Rd
