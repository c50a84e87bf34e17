/- Contracts and laws: AssignPre, AssignPost. -/
import Derived.Test.YtkajfjbdlkkieaaDoorWith
import Derived.Test.YtkajfjbdlkkieaaDoorEvl
import Derived.Test.YtkajfjbdlkkieaaDoorVar
import Derived.Test.YtkajfjbdlkkieaaDoorMake
namespace Go.Proofs.YtkajfjbdlkkieaaDoor.As
open Go.RowKit Go.Deep Go.Sort Go.Proofs.YtkajfjbdlkkieaaDoor.Pl Go.Proofs.YtkajfjbdlkkieaaDoor.Bi Go.Proofs.YtkajfjbdlkkieaaDoor.Ro Go.Proofs.YtkajfjbdlkkieaaDoor.Se Go.Proofs.YtkajfjbdlkkieaaDoor.St Go.Proofs.YtkajfjbdlkkieaaDoor.En Go.Proofs.YtkajfjbdlkkieaaDoor.Nu Go.Proofs.YtkajfjbdlkkieaaDoor.Wt Go.Proofs.YtkajfjbdlkkieaaDoor.Va Go.Proofs.YtkajfjbdlkkieaaDoor.Ps Go.Proofs.YtkajfjbdlkkieaaDoor.Vl Go.Proofs.YtkajfjbdlkkieaaDoor.El
set_option linter.unusedVariables false

/-! ### Plain -/
/-- The value of an expression in the state with a number. -/
def vlI (b : UInt8) (k : F) (i : Nat) : Int := val (ev3 (sx i) (sy i) (sz i)) b k
theorem st_of (i : Nat) (h : i < 27) : stB (sx i) (sy i) (sz i) = true := by
  have := s_range (i := i) (by omega) (by omega)
  exact stB_true this
theorem vl_range (b : UInt8) (k : F) (i : Nat) (h : i < 27) : 0 ≤ vlI b k i ∧ vlI b k i ≤ 2 := val_range _ (ev3_rng (st_of i h)) b k
def vlN (b : UInt8) (k : F) (i : Nat) : Nat := (vlI b k i).toNat
theorem vl_nat (b : UInt8) (k : F) (i : Nat) (h : i < 27) : vlI b k i = (vlN b k i : Int) ∧ vlN b k i < 3 := by
  have := vl_range b k i h
  unfold vlN
  omega
/-- The number of the state behind an assignment. -/
def toN (v : Nat) (b : UInt8) (k : F) (i : Nat) : Nat := wvN v i (vlN b k i)
theorem to_lt (v : Nat) (b : UInt8) (k : F) (i : Nat) (h : i < 27) : toN v b k i < 27 := (wv_nat v h (vl_nat b k i h).2).2
/-- The copy of a state, and a result's variable, behind calls that only laid blocks. -/
def Aft (w : World) (x y z : Int) (w2 : World) : Prop :=
    Below w.heap.size w w2 ∧ w.heap.size + 1 < w2.heap.size ∧
    (w2.cell? ⟨w.heap.size + 1, 0, none⟩ = some (.int .i64 0) ∧ w2.cell? ⟨w.heap.size + 1, 1, none⟩ = some (.int .i64 0) ∧ w2.cell? ⟨w.heap.size + 1, 2, none⟩ = some (.int .i64 0)) ∧
    (w2.frozen? ⟨w.heap.size + 1, 0, none⟩ = false ∧ w2.frozen? ⟨w.heap.size + 1, 1, none⟩ = false ∧ w2.frozen? ⟨w.heap.size + 1, 2, none⟩ = false) ∧
    (w2.cell? ⟨w.heap.size, 0, none⟩ = some (.int .i64 x) ∧ w2.cell? ⟨w.heap.size, 1, none⟩ = some (.int .i64 y) ∧ w2.cell? ⟨w.heap.size, 2, none⟩ = some (.int .i64 z))
theorem res_after0 {w W w2 : World} {t : TypeId} {x y z : Int} (hW : Below (w.heap.size + 2) (box (box w t x y z) t 0 0 0) W) (h1 : Below W.heap.size W w2) : Aft w x y z w2 := by
  have s0 := hW.size
  simp at s0
  have s1 := h1.size
  have h : Below (w.heap.size + 2) (box (box w t x y z) t 0 0 0) w2 := hW.trans (h1.mono s0)
  refine ⟨?_, by omega, ⟨?_, ?_, ?_⟩, ⟨?_, ?_, ?_⟩, ⟨?_, ?_, ?_⟩⟩
  · exact Below.trans (Below.alloc (Below.alloc (Below.refl _ _) (by omega) _) (by simp) _) (h.mono (by omega))
  all_goals first
    | (rw [h.cell (by simp)]; simp [World.cell?_alloc_at, World.cell?_alloc_past]; done)
    | (rw [h.frozen (by simp)]; simp [World.frozen?_alloc_at])
theorem res_after1 {w w2 w3 : World} {x y z : Int} (h : Aft w x y z w2) (h1 : Below w2.heap.size w2 w3) : Aft w x y z w3 := by
  obtain ⟨hb, hs, ⟨a0, a1, a2⟩, ⟨f0, f1, f2⟩, ⟨c0, c1, c2⟩⟩ := h
  have s1 := h1.size
  exact ⟨hb.trans (h1.mono (by omega)), by omega, ⟨(h1.cell (by simp; omega)).trans a0, (h1.cell (by simp; omega)).trans a1, (h1.cell (by simp; omega)).trans a2⟩, ⟨(h1.frozen (by simp; omega)).trans f0, (h1.frozen (by simp; omega)).trans f1, (h1.frozen (by simp; omega)).trans f2⟩, ⟨(h1.cell (by simp; omega)).trans c0, (h1.cell (by simp; omega)).trans c1, (h1.cell (by simp; omega)).trans c2⟩⟩
theorem specAssign (v : Nat) (hv : v < 3) (b : UInt8) (k : F) (hi : Is false 0 b k) (hl : (bs (tx b k)).size ≤ 1000) (i : Nat) (h : i < 27) (w : World) :
    Calls Tryd.prog 25 #[.agg #[.int .i64 (sx i), .int .i64 (sy i), .int .i64 (sz i)], .int .i64 (v : Int), .string (bs (tx b k))] w fun e w' => e = .returned (.agg #[.int .i64 (if v = 0 then (vlN b k i : Int) else sx i), .int .i64 (if v = 1 then (vlN b k i : Int) else sy i), .int .i64 (if v = 2 then (vlN b k i : Int) else sz i)]) ∧ Below w.heap.size w w' := by
  have HC := Lib.hid (fun w => specValue (bs (tx b k)) hl false (ev3 (sx i) (sy i) (sz i)) (ev3_rng (st_of i h)) k.size b k 0 [] w (Nat.le_refl _) hi (by rw [bs_list]; simp))
  have hvl : val (ev3 (sx i) (sy i) (sz i)) b k = (vlN b k i : Int) := (vl_nat b k i h).1
  rw [hvl] at HC
  have HW := Lib.hid (fun w => specWith v (sx i) (sy i) (sz i) (vlN b k i : Int) w hv)
  obtain ⟨n, hn⟩ : ∃ n, vlN b k i = n := ⟨_, rfl⟩
  rw [hn] at HC HW ⊢
  clear hvl hn
  obtain ⟨x, hx⟩ : ∃ x, sx i = x := ⟨_, rfl⟩
  obtain ⟨y, hy⟩ : ∃ y, sy i = y := ⟨_, rfl⟩
  obtain ⟨z, hz⟩ : ∃ z, sz i = z := ⟨_, rfl⟩
  rw [hx, hy, hz] at HC HW ⊢
  clear hx hy hz
  have hone : ∀ w w1, box6 (box w 31 x y z) 50 x y z 0 0 0 = w1 → Below w.heap.size w w1 := by
    rintro w w1 rfl
    repeat (first | exact Below.refl _ _ | refine Below.alloc ?_ (by simp <;> omega) _)
  have HONE := Lib.hid (fun w => (specOne x y z w).mono fun e w1 (h : e = .returned (env6 x y z 0 0 0) ∧ _) => (⟨h.1, hone w w1 h.2⟩ : e = .returned (env6 x y z 0 0 0) ∧ Below w.heap.size w w1))
  clear hone
  rcases (by omega : v = 0 ∨ v = 1 ∨ v = 2) with rfl | rfl | rfl
  all_goals
    simp only [if_true, if_false, Nat.reduceEqDiff, show ((0 : Nat) = 1) = False by simp, show ((1 : Nat) = 0) = False by simp] at HW ⊢
    go_enter Tryd.func25, Tryd.ntmps25
    go_wp2_with fail
    refine (HONE.out _).mono ?_
    rintro e w1 ⟨rfl, hb1⟩
    go_wp2_with fail
    refine (HC.out _).mono ?_
    rintro e w2 ⟨rfl, hb2⟩
    have HS2 := Lib.hid (res_after0 (w := w) (t := 31) (x := x) (y := y) (z := z) (hb1.mono (by simp)) hb2)
    obtain ⟨hbw, hsz, ⟨r0, r1, r2⟩, hfs, ⟨c0, c1, c2⟩⟩ := HS2.out
    clear hb1 hb2 r0 r1 r2 hfs hbw hsz
    go_wp2_with fail
    refine (HW.out _).mono ?_
    rintro e w3 ⟨rfl, hb3⟩
    obtain ⟨hbw, hsz, hcs, hfs, _⟩ := res_after1 HS2.out hb3
    clear c0 c1 c2 hb3
    go_wp2_with fail
    first
      | (refine bodyPost_ret (v := .agg #[.int .i64 (n : Int), .int .i64 y, .int .i64 z]) ?_ rfl ⟨rfl, ?_⟩
         · simp [results, Tryd.results25, go_sem, hcs]
         · exact ((hbw.setCell (show w.heap.size ≤ w.heap.size + 1 by omega) _).setCell (show w.heap.size ≤ w.heap.size + 1 by omega) _).setCell (show w.heap.size ≤ w.heap.size + 1 by omega) _)
      | (refine bodyPost_ret (v := .agg #[.int .i64 x, .int .i64 (n : Int), .int .i64 z]) ?_ rfl ⟨rfl, ?_⟩
         · simp [results, Tryd.results25, go_sem, hcs]
         · exact ((hbw.setCell (show w.heap.size ≤ w.heap.size + 1 by omega) _).setCell (show w.heap.size ≤ w.heap.size + 1 by omega) _).setCell (show w.heap.size ≤ w.heap.size + 1 by omega) _)
      | (refine bodyPost_ret (v := .agg #[.int .i64 x, .int .i64 y, .int .i64 (n : Int)]) ?_ rfl ⟨rfl, ?_⟩
         · simp [results, Tryd.results25, go_sem, hcs]
         · exact ((hbw.setCell (show w.heap.size ≤ w.heap.size + 1 by omega) _).setCell (show w.heap.size ≤ w.heap.size + 1 by omega) _).setCell (show w.heap.size ≤ w.heap.size + 1 by omega) _)
/-! ### Rows of numbers -/
def ints (base : Nat) (w : World) (v : Value) (xs : List Nat) : Prop := w.ownsRow base 3 1 v xs.length (xs.map fun (n : Nat) => Value.int .i64 (n : Int)) ∧ v ≠ .slice none 0 0
theorem ints_below {base : Nat} {w w' : World} {v : Value} {xs : List Nat} (h : ints base w v xs) (hb : Below w.heap.size w w') : ints base w' v xs := by
  have hg : w.grownBy w' none := ⟨hb.os, hb.tape, hb.output, hb.size, fun k hk _ => hb.block k hk⟩
  refine ⟨?_, h.2⟩
  cases hv : v.ownBlock with
  | none => exact h.1.kept hg (.inl hv)
  | some g => exact h.1.kept hg (.inr (by rw [hv]; simp))
theorem ints_alloc {base : Nat} {w : World} {v : Value} {xs : List Nat} (h : ints base w v xs) (ob : Obj) : ints base (w.alloc ob) v xs := ints_below h ((Below.refl _ w).alloc (Nat.le_refl _) _)
theorem new_one (w : World) (x : Value) (t : TypeId) (c : Nat) (hc : c = w.heap.size) : ∀ j u, [x][j]? = some u → (w.alloc (.cells #[x] t)).cell? ((⟨c, 0, none⟩ : Addr).add j) = some u := by
  intro j u hj
  subst hc
  match j, hj with
  | 0, hj =>
    simp at hj
    subst hj
    exact cell_one_new _ _ _ 0 _ rfl
  | j + 1, hj => simp at hj
theorem one_int (x : Int) : ∀ u ∈ [Value.int .i64 x], u.oneCell' = true := by
  intro u hu; simp at hu; subst hu; rfl
theorem int_one {base : Nat} {w2 w3 : World} {v v' : Value} {ys : List Nat} {y : Nat} {ob : Obj} {n : Nat} (h : ints base w2 v ys) (hn : n = ys.length + 1)
    (ho : w3.ownsRow base 3 1 v' n (ys.map (fun (n : Nat) => Value.int .i64 (n : Int)) ++ [.int .i64 (y : Int)])) (hg : (w2.alloc ob).grownBy w3 v.ownBlock) (hv : v' = .slice none 0 0 ↔ v = .slice none 0 0 ∧ 1 = 0) :
    (∃ g c, v' = .slice (some ⟨g, 0, none⟩) n c) ∧ ints base w3 v' (ys ++ [y]) ∧ ∀ B W, B ≤ base → Below B W w2 → B ≤ w2.heap.size → Below B W w3 := by
  subst hn
  have hne : v' ≠ .slice none 0 0 := fun e => by have := (hv.1 e).2; omega
  refine ⟨?_, ⟨?_, hne⟩, fun B W hB hb hl => ?_⟩
  · rcases ho.2 with ⟨e, _⟩ | ⟨g, cap, cur, e, _⟩
    · exact absurd e hne
    · exact ⟨g, cap, e⟩
  · simpa using ho
  · have h1 := ints_alloc h ob
    exact (hb.alloc hl ob).grown hg (Nat.le_trans hl (by simp)) fun k hk => Nat.le_trans hB (h1.1.lt k hk).1
theorem ints_low {b b' : Nat} {w : World} {e : TypeId} {z : Nat} {v : Value} {n : Nat} {xs : List Value} (h : w.ownsRow b e z v n xs) (hb : b' ≤ b) : w.ownsRow b' e z v n xs := by
  refine ⟨h.1, ?_⟩
  rcases h.2 with hn | ⟨g, cap, cur, rfl, hg, rest⟩
  · exact .inl hn
  · exact .inr ⟨g, cap, cur, rfl, Nat.le_trans hb hg, rest⟩
theorem infoInt : (Tryd.prog.info? 3).map (fun i => (i.zero, i.size, i.bytes)) = some (some (.int .i64 0), 1, 8) := by kernel_rfl
/-- A number of the row. -/
theorem ints_cell {base : Nat} {w : World} {g n cap : Nat} {xs : List Nat} (h : ints base w (.slice (some ⟨g, 0, none⟩) n cap) xs) : n = xs.length ∧ base ≤ g ∧ g < w.heap.size ∧ ∀ (i x : Nat), xs[i]? = some x → w.cell? ⟨g, i, none⟩ = some (.int .i64 (x : Int)) := by
  rcases h.1.2 with ⟨hv, _⟩ | ⟨g', cap', cur, hv, hg, hh, hc, hm, hz, ht⟩
  · cases hv
  · cases hv
    refine ⟨rfl, hg, (Array.getElem?_eq_some_iff.1 hh).1, fun i x hx => ?_⟩
    have := h.1.cells (g := g) rfl i (.int .i64 (x : Int)) (by rw [List.getElem?_map, hx]; rfl)
    have e : (⟨g, 0, none⟩ : Addr).add i = ⟨g, i, none⟩ := by unfold Addr.add; split <;> simp_all
    rw [e] at this
    exact this
/-- The numbers behind an assignment, of the first states. -/
def toL (v : Nat) (b : UInt8) (k : F) (n : Nat) : List Nat := (List.range n).map (toN v b k)
theorem toL_len (v : Nat) (b : UInt8) (k : F) (n : Nat) : (toL v b k n).length = n := by simp [toL]
theorem toL_step (v : Nat) (b : UInt8) (k : F) (n : Nat) : toL v b k (n + 1) = toL v b k n ++ [toN v b k n] := by simp [toL, List.range_succ]
theorem stride_drew {w : World} (m : Nat) (h : strideAt w) : strideAt (w.drewN m) := h
theorem slotV (v : Nat) (hv : v < 3) (c : UInt8) (hc : c.toNat = 120 + v) (w : World) : Calls Tryd.prog 46 #[.int .u8 (c.toNat : Int)] w fun e w' => e = .returned (.int .i64 (v : Int)) ∧ w = w' := by
  have h1 : vrB true c.toNat = true := by rw [hc]; simp [vrB]; omega
  refine (implSlot c w h1).mono ?_
  rintro e w' ⟨rfl, rfl⟩
  have : slotOf c.toNat = v := by rw [hc]; rcases (by omega : v = 0 ∨ v = 1 ∨ v = 2) with rfl | rfl | rfl <;> rfl
  exact ⟨by rw [this], rfl⟩
theorem var_no (v : Nat) (hv : v < 3) (c : UInt8) (hc : c.toNat = 120 + v) : varNo ⟨#[c]⟩ = (v : Int) := by
  have : c = UInt8.ofNat (120 + v) := UInt8.toNat_inj.1 (by rw [hc]; simp; omega)
  subst this
  rcases (by omega : v = 0 ∨ v = 1 ∨ v = 2) with rfl | rfl | rfl
  · exact var_x
  · exact var_y
  · exact var_z
set_option maxRecDepth 100000 in
set_option maxHeartbeats 2000000 in
theorem implAssigned (v : Nat) (hv : v < 3) (c : UInt8) (hc : c.toNat = 120 + v) (s : ByteArray) (hs : s.size ≤ 1048576) (w : World) (hst : strideAt w) :
    Calls Tryd.prog 27 #[.string ⟨#[c]⟩, .string s] w fun e w' =>
      (okS false 0 200 s = false ∧ e = .returned (.tuple #[.slice none 0 0, .bool false]) ∧ Below w.heap.size w w') ∨
      (∃ b k g cap, okS false 0 200 s = true ∧ Is false 0 b k ∧ s = bs (tx b k) ∧ e = .returned (.tuple #[.slice (some ⟨g, 0, none⟩) 27 cap, .bool true]) ∧ ints w.heap.size w' (.slice (some ⟨g, 0, none⟩) 27 cap) (toL v b k 27) ∧ Below w.heap.size w w') := by
  have hp := Lib.hid (fun w => implParseExpr s w hs)
  have HN := Lib.hid (fun w => implIsVar ⟨#[c]⟩ w)
  rw [var_no v hv c hc, show decide ((0 : Int) ≤ (v : Int)) = true by simp] at HN
  have HST := Lib.hid hst
  have HSL := Lib.hid (fun w => slotV v hv c hc w)
  clear hst
  go_enter Tryd.func27, Tryd.ntmps27
  go_wp2_with fail
  refine (hp.out _).mono ?_
  rintro e w1 (⟨h, rfl, hb⟩ | ⟨b, k, p, h, hi, rfl, rfl, hT, hb⟩)
  · have H := Lib.hid h
    clear h
    go_wp2_with fail
    refine (HN.out _).mono ?_
    rintro e w2 ⟨rfl, rfl⟩
    go_wp2_with fail
    exact bodyPost_ret (v := .tuple #[.slice none 0 0, .bool false]) (by simp [results, Tryd.results27, go_sem]) rfl (.inl ⟨H.out, rfl, hb⟩)
  · have H := Lib.hid h
    have HI := Lib.hid hi
    have HT := Lib.hid hT
    have HB1 := Lib.hid hb
    obtain ⟨i0, hi0, hz0, hz1, hz2⟩ := info_parts infoInt
    obtain ⟨T, hTT⟩ : ∃ T, bs (tx b k) = T := ⟨_, rfl⟩
    have HTT := Lib.hid hTT
    have s0 : ints w1.heap.size (w1.alloc (.cells #[] 3)) (.slice (some ⟨w1.heap.size, 0, none⟩) 0 0) ([] : List Nat) :=
      ⟨World.ownsRow_made w1 #[] 0 (Nat.le_refl _) (by unfold maxLen; omega) rfl, by simp⟩
    have hb0 := ((Below.refl w1.heap.size w1).alloc (Nat.le_refl _) (.cells #[] 3))
    rw [hTT]
    clear h hi hT hb hTT
    go_wp2_with fail
    refine (HN.out _).mono ?_
    rintro e w2 ⟨rfl, rfl⟩
    go_wp2_with fail
    go_loopw [7, 8, 9] (fun out ix w9 wr => ∃ (i : Nat) (cap : Nat) (g : Nat), i ≤ 27 ∧ ix = .int .i64 i ∧ out = .slice (some ⟨g, 0, none⟩) i cap ∧ ints w1.heap.size wr (.slice (some ⟨g, 0, none⟩) i cap) (toL v b k i) ∧ Below w1.heap.size w1 wr) (fun _ ix _ _ => 27 - (intOf ix).toNat)
    case atStart => exact ⟨0, 0, w1.heap.size, Nat.zero_le _, rfl, rfl, s0, hb0⟩
    case round =>
      clear s0 hb0
      obtain ⟨i, cap, g, hi, rfl, rfl, hown, hb⟩ := hrel
      by_cases hlt : i < 27
      · have HO := Lib.hid hown
        have HB := Lib.hid hb
        have HAT := Lib.hid (fun w => implAt (i : Int) w (by omega) (by omega))
        clear hown hb
        go_wp2_with (first
          | (go_at_call 44; refine (HAT.out _).mono ?_; rintro e w3 ⟨rfl, hb3⟩)
          | (go_at_call 43; refine (implEnvOf _ _ _ _ _ _ _).mono ?_; rintro e w4 ⟨rfl, hb4⟩))
        refine (HSL.out _).mono ?_
        rintro e w5 ⟨rfl, rfl⟩
        have hx3 : Below wr.heap.size wr w3 := by rw [← hb3]; exact (Below.refl _ _).alloc (Nat.le_refl _) _
        have hx4 := hx3.trans (hb4.mono hx3.size)
        have hx5 := hx4.alloc hx4.size (.cells #[.int .i64 (sx i), .int .i64 (sy i), .int .i64 (sz i), .int .i64 0, .int .i64 0, .int .i64 0] 53)
        have hx6 := HB.out.trans (hx5.mono HB.out.size)
        have HS6 := Lib.hid (fun m => stride_drew m (stride_below HST.out (HB1.out.trans (hx6.mono HB1.out.size))))
        have HCV := Lib.hid (implValue false (ev3 (sx i) (sy i) (sz i)) (ev3_rng (st_of i hlt)) w4.heap.size k.size b k p _ (Nat.le_refl _) HI.out (isT_below hx6 HT.out) (by
          intro i hi6
          rw [cell_of_block (heap_alloc_new _ _) i]
          rcases (show i = 0 ∨ i = 1 ∨ i = 2 ∨ i = 3 ∨ i = 4 ∨ i = 5 by omega) with h | h | h | h | h | h <;> subst h <;> rfl))
        rw [show val (ev3 (sx i) (sy i) (sz i)) b k = (vlN b k i : Int) from (vl_nat b k i hlt).1] at HCV
        have HWV := Lib.hid (fun w hs => implWith v (i : Int) (vlN b k i : Int) w hv (by omega) (by omega) (by omega) (by have := (vl_nat b k i hlt).2; omega) hs)
        rw [show wvI v (i : Int) (vlN b k i : Int) = (toN v b k i : Int) from (wv_nat v hlt (vl_nat b k i hlt).2).1] at HWV
        have HO6 := Lib.hid (ints_below HO.out hx5)
        have HX6 := Lib.hid hx6
        have HTL := Lib.hid (toL_step v b k i)
        have HLN := Lib.hid (toL_len v b k i)
        obtain ⟨n0, hn0⟩ : ∃ n, vlN b k i = n := ⟨_, rfl⟩
        obtain ⟨n1, hn1⟩ : ∃ n, toN v b k i = n := ⟨_, rfl⟩
        obtain ⟨ys, hys⟩ : ∃ y, toL v b k i = y := ⟨_, rfl⟩
        rw [hn0] at HCV HWV
        rw [hn1] at HWV HTL
        rw [hys] at HTL HLN HO6
        clear hb3 hb4 hx3 hx4 hx5 hx6 hn0 hn1 hys HO
        go_wp2_with fail
        refine (HCV.out).mono ?_
        rintro e w6 ⟨rfl, m, rfl⟩
        go_wp2_with fail
        refine (HWV.out _ (HS6.out m)).mono ?_
        rintro e w7 ⟨rfl, m2, rfl⟩
        have O7 : ints w1.heap.size (((w4.alloc (.cells #[.int .i64 (sx i), .int .i64 (sy i), .int .i64 (sz i), .int .i64 0, .int .i64 0, .int .i64 0] 53)).drewN m).drewN m2) (.slice (some ⟨g, 0, none⟩) i cap) ys := ints_below HO6.out ⟨rfl, rfl, rfl, Nat.le_refl _, fun _ _ => rfl⟩
        have B7 : Below w1.heap.size w1 (((w4.alloc (.cells #[.int .i64 (sx i), .int .i64 (sy i), .int .i64 (sz i), .int .i64 0, .int .i64 0, .int .i64 0] 53)).drewN m).drewN m2) := HX6.out.trans ⟨rfl, rfl, rfl, Nat.le_refl _, fun _ _ => rfl⟩
        generalize ((w4.alloc (.cells #[.int .i64 (sx i), .int .i64 (sy i), .int .i64 (sz i), .int .i64 0, .int .i64 0, .int .i64 0] 53)).drewN m).drewN m2 = W7 at O7 B7 ⊢
        have HO7 := Lib.hid O7
        have HB7 := Lib.hid B7
        clear O7 B7 HO6 HX6 HCV HS6
        go_wp2_with (at_builtin; refine wpList_append_own _ rfl (.tmp 28) (.tmp 36) 34 rfl w1.heap.size 3 i0 (.int .i64 0) 1 8 Tryd.underlying34 hi0 hz0 hz1 hz2 rfl (by decide) _ _ _ rfl (ints_alloc HO7.out _).1 ⟨W7.heap.size, 0, none⟩ 1 1 [.int .i64 (n1 : Int)] rfl rfl (new_one _ _ _ _ rfl) (one_int _) (by rw [HLN.out]; unfold maxLen; omega) (by rw [HLN.out]; omega) (Nat.le_trans HB7.out.size (by simp)) ?_; intro v' w8 ho8 hg8 hn8; obtain ⟨⟨g', c', rfl⟩, O8, B8⟩ := int_one HO7.out rfl ho8 hg8 hn8)
        go_roundw
        case rel => exact ⟨i + 1, c', g', by omega, by go_num, by rw [HLN.out], by rw [HTL.out]; rw [HLN.out] at O8; exact O8, B8 _ _ (Nat.le_refl _) HB7.out HB7.out.size⟩
        case measure => simp [intOf]; omega
      · obtain rfl : i = 27 := by omega
        have HO := Lib.hid hown
        have HB := Lib.hid (HB1.out.trans (hb.mono HB1.out.size))
        have HE := Lib.hid (show ints w.heap.size wr (.slice (some ⟨g, 0, none⟩) 27 cap) (toL v b k 27) from ⟨ints_low hown.1 HB1.out.size, hown.2⟩)
        clear hown hb
        go_wp2_with fail
        exact bodyPost_ret (v := .tuple #[.slice (some ⟨g, 0, none⟩) 27 cap, .bool true]) (by simp [results, Tryd.results27, go_sem]) rfl (.inr ⟨b, k, g, cap, H.out, HI.out, rfl, rfl, HE.out, HB.out⟩)
theorem implAssignedBad (v : ByteArray) (s : ByteArray) (hs : s.size ≤ 1048576) (w : World) (hv : ¬ 0 ≤ varNo v) :
    Calls Tryd.prog 27 #[.string v, .string s] w fun e w' => e = .returned (.tuple #[.slice none 0 0, .bool false]) ∧ Below w.heap.size w w' := by
  have hp := Lib.hid (fun w => implParseExpr s w hs)
  have HN := Lib.hid (fun w => implIsVar v w)
  rw [show decide (0 ≤ varNo v) = false by simp; omega] at HN
  clear hv
  go_enter Tryd.func27, Tryd.ntmps27
  go_wp2_with fail
  refine (hp.out _).mono ?_
  rintro e w1 (⟨h, rfl, hb⟩ | ⟨b, k, p, h, hi, rfl, rfl, hT, hb⟩)
  all_goals
    have HB := Lib.hid hb
    clear hb h
    go_wp2_with fail
    refine (HN.out _).mono ?_
    rintro e w2 ⟨rfl, rfl⟩
    go_wp2_with fail
    exact bodyPost_ret (v := .tuple #[.slice none 0 0, .bool false]) (by simp [results, Tryd.results27, go_sem]) rfl ⟨rfl, HB.out⟩
/-- A variable's text. -/
theorem var_is {v : ByteArray} (h : 0 ≤ varNo v) : ∃ (n : Nat) (c : UInt8), n < 3 ∧ v = ⟨#[c]⟩ ∧ c.toNat = 120 + n ∧ varNo v = (n : Int) := by
  rcases var_cases v with ⟨e, rfl⟩ | ⟨e, rfl⟩ | ⟨e, rfl⟩ | ⟨e, _⟩
  · exact ⟨0, 120, by omega, rfl, rfl, e⟩
  · exact ⟨1, 121, by omega, rfl, rfl, e⟩
  · exact ⟨2, 122, by omega, rfl, rfl, e⟩
  · omega
def exO (s : ByteArray) : UInt8 × F := match P false [0] s.data.toList with
  | some (.node b k _, _) => (b, k)
  | _ => (0, .nil)
theorem exO_is {b : UInt8} {k : F} (hi : Is false 0 b k) : exO (bs (tx b k)) = (b, k) := by
  have := P_is hi []
  rw [List.append_nil] at this
  simp only [exO, bs_list, this]
def okA (p v e : ByteArray) : Bool := bitsB p 27 && (decide (0 ≤ varNo v) && okS false 0 200 e)
def strV : Option ByteArray → Value
  | none => .tuple #[.string ⟨#[]⟩, .bool false]
  | some v => .tuple #[.string v, .bool true]
def toE (v e : ByteArray) (i : Nat) : Nat := toN (varNo v).toNat (exO e).1 (exO e).2 i
theorem toE_is {v : ByteArray} {n : Nat} {b : UInt8} {k : F} (h : varNo v = (n : Int)) (hi : Is false 0 b k) (i : Nat) : toE v (bs (tx b k)) i = toN n b k i := by
  unfold toE
  rw [h, exO_is hi]; rfl
def preV (p v e : ByteArray) : Option ByteArray := if okA p v e = true then some (mk 27 fun i => bt (one p (toE v e i))) else none
theorem sp_boxed {P : Program} {f : FuncId} {args : Array Value} {w : World} {v : Value} {t : TypeId} {x y z : Int} (h : Calls P f args w fun e w' => e = .returned v ∧ box w t x y z = w') : Calls P f args w fun e w' => e = .returned v ∧ Below w.heap.size w w' :=
  h.mono fun _ _ ⟨he, hw⟩ => ⟨he, hw ▸ (Below.refl _ _).alloc (Nat.le_refl _) _⟩
set_option maxRecDepth 100000 in
set_option maxHeartbeats 1000000 in
theorem specAssignPre (p v e : ByteArray) (w : World) (hp : p.size ≤ 1048576) (he : e.size ≤ 1048576) : Calls Tryd.prog 11 #[.string p, .string v, .string e] w fun x w' => x = .returned (strV (preV p v e)) ∧ Below w.heap.size w w' := by
  have hp' : p.size ≤ maxLen := by unfold maxLen; omega
  have HV := Lib.hid (fun w => specPredValid p w hp')
  have HN := Lib.hid (fun w => specVar v w)
  have HE := Lib.hid (fun w => specExprValid e w he)
  cases h1 : bitsB p 27 with
  | false =>
    have H := Lib.hid (show preV p v e = none by simp [preV, okA, h1])
    rw [h1] at HV
    clear h1
    go_enter Tryd.func11, Tryd.ntmps11
    go_wp2_with (go_at_call 23; refine (HV.out _).mono ?_; rintro x w1 ⟨rfl, rfl⟩)
    exact bodyPost_ret (v := .tuple #[.string ⟨#[]⟩, .bool false]) (by simp [results, Tryd.results11, go_sem]) rfl ⟨by rw [H.out]; rfl, Below.refl _ _⟩
  | true =>
    rw [h1] at HV
    by_cases h2 : 0 ≤ varNo v
    · obtain ⟨n, c, hn, rfl, hc, hvn⟩ := var_is h2
      rw [hvn] at HN
      have hn0 : decide ((n : Int) < 0) = false := by simp
      cases h3 : okS false 0 200 e with
      | false =>
        have H := Lib.hid (show preV p ⟨#[c]⟩ e = none by simp [preV, okA, h3])
        rw [h3] at HE
        clear h1 h2 h3
        go_enter Tryd.func11, Tryd.ntmps11
        go_wp2_with (first | (go_at_call 23; refine (HV.out _).mono ?_; rintro x w1 ⟨rfl, rfl⟩) | (go_at_call 16; refine (HN.out _).mono ?_; rintro x w2 ⟨rfl, rfl⟩) | (go_at_call 15; refine (HE.out _).mono ?_; rintro x w3 ⟨rfl, hb3⟩))
        exact bodyPost_ret (v := .tuple #[.string ⟨#[]⟩, .bool false]) (by simp [results, Tryd.results11, go_sem]) rfl ⟨by rw [H.out]; rfl, hb3⟩
      | true =>
        obtain ⟨hl, b, k, hi, rfl⟩ := okS_is h3
        have H := Lib.hid (show preV p ⟨#[c]⟩ (bs (tx b k)) = some (mk 27 fun i => bt (one p (toN n b k i))) by
          rw [preV, if_pos (by simp [okA, h1, h2, h3])]
          simp only [toE_is hvn hi])
        have HS := Lib.hid (bits_size h1)
        have HBIT := Lib.hid (fun j hj => bits_bit h1 (k := j) hj)
        have HC := Lib.hid (fun i hlt w => specAssign n hn b k hi (by omega) i hlt w)
        have HTO := Lib.hid (fun i hlt => to_lt n b k i hlt)
        have HIX := Lib.hid (fun i (hlt : i < 27) w => sp_boxed (specIndex _ _ _ w (st_ok n i (vlN b k i) hlt (vl_nat b k i hlt).2)))
        have HXX := Lib.hid (fun i (hlt : i < 27) => (show ix _ _ _ = ((toN n b k i : Nat) : Int) from ix_wv n i (vlN b k i) hn hlt (vl_nat b k i hlt).2))
        rw [h3] at HE
        obtain ⟨g, hg⟩ : ∃ g, (fun i => bt (one p (toN n b k i))) = g := ⟨_, rfl⟩
        rw [hg] at H
        have HG := Lib.hid hg
        obtain ⟨T, hT⟩ : ∃ T, bs (tx b k) = T := ⟨_, rfl⟩
        rw [hT] at HE HC H
        rw [hT]
        have hmk := run_make_row' (P := Tryd.prog) 28 5 (.int .u8 0) 1 Tryd.underlying28 infoU8 rfl .i64 .i64 27 (by omega) (by omega)
        rw [show ((27 : Nat) : Int) = 27 from rfl] at hmk
        clear h1 h2 h3 hT hg hl he
        go_enter Tryd.func11, Tryd.ntmps11
        go_wp2_with (first | (go_at_call 23; refine (HV.out _).mono ?_; rintro x w1 ⟨rfl, rfl⟩) | (go_at_call 16; refine (HN.out _).mono ?_; rintro x w2 ⟨rfl, rfl⟩) | (go_at_call 15; refine (HE.out _).mono ?_; rintro x w3 ⟨rfl, hb3⟩))
        go_loopw [9] (fun i wr => ∃ j : Nat, j ≤ 27 ∧ i = .int .i64 j ∧ wr.rowIs w3.heap.size 5 27 (fillTo g j) ∧ Below w.heap.size w wr) (fun i _ => 27 - (intOf i).toNat)
        case atStart => exact ⟨0, Nat.zero_le _, rfl, fill_zero _ _ _ _, hb3.alloc hb3.size _⟩
        case round =>
          obtain ⟨i, hi27, rfl, hrow, hb⟩ := hrel
          by_cases hlt : i < 27
          · have hd : decide ((i : Int) < 27) = true := by simp; omega
            have HAT := Lib.hid (fun w => sp_boxed (specAt (i : Int) w (by omega) (by omega)))
            have HA1 := Lib.hid (HC.out i hlt)
            have HI1 := Lib.hid (HIX.out i hlt)
            rw [HXX.out i hlt] at HI1
            obtain ⟨X, hX⟩ : ∃ X : Int, (if n = 0 then (vlN b k i : Int) else sx i) = X := ⟨_, rfl⟩
            obtain ⟨Y, hY⟩ : ∃ Y : Int, (if n = 1 then (vlN b k i : Int) else sy i) = Y := ⟨_, rfl⟩
            obtain ⟨Z, hZ⟩ : ∃ Z : Int, (if n = 2 then (vlN b k i : Int) else sz i) = Z := ⟨_, rfl⟩
            rw [hX, hY, hZ] at HA1 HI1
            clear hX hY hZ
            have ht := HTO.out i hlt
            have hts : toN n b k i < p.size := by have := HS.out; omega
            have hgi : (g i).toNat = (p[toN n b k i]'hts).toNat := by
              rw [← HG.out]
              show (bt (one p (toN n b k i))).toNat = _
              rcases HBIT.out _ hts with h | h
              · rw [one_false hts (by omega), h]; rfl
              · rw [one_true hts h, h]; rfl
            obtain ⟨t, htt⟩ : ∃ t, toN n b k i = t := ⟨_, rfl⟩
            have hts2 : t < p.size := by omega
            have hgi2 : (g i).toNat = (p[t]'hts2).toNat := by simpa only [htt] using hgi
            have HGI := Lib.hid hgi2
            rw [htt] at HI1
            have HROW := Lib.hid hrow
            have HB := Lib.hid hb
            clear ht hts hgi htt hgi2 hrow hb
            go_wp2_with fail
            refine (HAT.out _).mono ?_
            rintro x w4 ⟨rfl, hb4⟩
            go_wp2_with fail
            refine (HN.out _).mono ?_
            rintro x w5 ⟨rfl, rfl⟩
            go_wp2_with fail
            refine (HA1.out _).mono ?_
            rintro x w6 ⟨rfl, hb6⟩
            go_wp2_with fail
            refine (HI1.out _).mono ?_
            rintro x w7 ⟨rfl, hb7⟩
            have hx := hb4.trans ((hb6.trans (hb7.mono hb6.size)).mono hb4.size)
            have HR7 := Lib.hid (HROW.out.of_block (hx.block _ HROW.out.lt))
            have HB7 := Lib.hid (HB.out.trans (hx.mono HB.out.size))
            have hcell := HR7.out.cell hlt
            have hfz := HR7.out.frozen i
            clear hx hb4 hb6 hb7
            go_wp2_with fail
            go_roundw
            case rel => exact ⟨i + 1, by omega, by go_num, fill_step HR7.out (by rw [HGI.out]), HB7.out.setCell (p := ⟨w3.heap.size, i, none⟩) hb3.size _⟩
            case measure => simp [intOf]; omega
          · obtain rfl : i = 27 := by omega
            have hcv := convU8 (cap := 27) (fill_all hrow)
            go_wp2_with fail
            exact bodyPost_ret (v := .tuple #[.string (mk 27 g), .bool true]) (by simp [results, Tryd.results11, go_sem]) rfl ⟨by rw [H.out]; rfl, hb⟩
    · have H := Lib.hid (show preV p v e = none by simp [preV, okA, h2])
      have hv : varNo v = -1 := by rcases var_cases v with ⟨e, _⟩ | ⟨e, _⟩ | ⟨e, _⟩ | ⟨e, _⟩ <;> omega
      rw [hv] at HN
      clear h1 h2 hv
      go_enter Tryd.func11, Tryd.ntmps11
      go_wp2_with (first | (go_at_call 23; refine (HV.out _).mono ?_; rintro x w1 ⟨rfl, rfl⟩) | (go_at_call 16; refine (HN.out _).mono ?_; rintro x w2 ⟨rfl, rfl⟩) | (go_at_call 15; refine (HE.out _).mono ?_; rintro x w3 ⟨rfl, hb3⟩))
      exact bodyPost_ret (v := .tuple #[.string ⟨#[]⟩, .bool false]) (by simp [results, Tryd.results11, go_sem]) rfl ⟨by rw [H.out]; rfl, Below.refl _ _⟩
set_option maxHeartbeats 1000000 in
theorem tells_pre (p : ByteArray) (f : Nat → Nat) (w : World) (b1 b2 g cap : Nat) (h1 : w.cell? ⟨b1, 0, none⟩ = some (.string p)) (h2 : w.cell? ⟨b2, 0, none⟩ = some (.slice (some ⟨g, 0, none⟩) 27 cap)) (hp : p.size = 27) (hf : ∀ i, i < 27 → f i < 27) (hc : ∀ i, i < 27 → w.cell? ⟨g, i, none⟩ = some (.int .i64 (f i : Int))) :
    Tells 30 #[.pointer (some ⟨b1, 0, none⟩), .pointer (some ⟨b2, 0, none⟩)] 27 (fun i => one p (f i)) w := by
  intro i hi W hb
  have c1 := (hb.cell (p := ⟨b1, 0, none⟩) (block_lt_of_cell h1)).trans h1
  have c2 := (hb.cell (p := ⟨b2, 0, none⟩) (block_lt_of_cell h2)).trans h2
  have c3 := (hb.cell (p := ⟨g, i, none⟩) (block_lt_of_cell (hc i hi))).trans (hc i hi)
  have hfi := hf i hi
  obtain ⟨t, ht⟩ : ∃ t, f i = t := ⟨_, rfl⟩
  have HT := Lib.hid (show (fun i => one p (f i)) i = one p t by rw [← ht])
  rw [ht] at c3 hfi
  have hts : t < p.size := by omega
  show Calls Tryd.prog 30 #[.int .i64 (i : Int), .pointer (some ⟨b1, 0, none⟩), .pointer (some ⟨b2, 0, none⟩)] W _
  clear h1 h2 hp hf hc hb ht
  by_cases e1 : p[t].toNat = 49
  · have HV := Lib.hid (one_true hts e1)
    have g1 : ((p[t].toNat : Int) == 49) = true := by simp; omega
    clear e1
    go_enter Tryd.func30, Tryd.ntmps30
    go_wp2_with fail
    go_quiet (fail)
    go_wp2_with fail
    go_ret
    exact ⟨by rw [HT.out, HV.out]; rfl, ⟨rfl, rfl, rfl, Nat.le_refl _, fun _ _ => rfl⟩⟩
  · have HV := Lib.hid (one_false hts e1)
    have g1 : ((p[t].toNat : Int) == 49) = false := by simp; omega
    clear e1
    go_enter Tryd.func30, Tryd.ntmps30
    go_wp2_with fail
    go_quiet (fail)
    go_wp2_with fail
    go_ret
    exact ⟨by rw [HT.out, HV.out]; rfl, ⟨rfl, rfl, rfl, Nat.le_refl _, fun _ _ => rfl⟩⟩
set_option maxRecDepth 100000 in
set_option maxHeartbeats 1000000 in
theorem implAssignPre (p v e : ByteArray) (w : World) (hp : p.size ≤ 1048576) (he : e.size ≤ 1048576) (hst : strideAt w) : Calls Tryd.prog 12 #[.string p, .string v, .string e] w fun x w' => x = .returned (strV (preV p v e)) ∧ Below w.heap.size w w' := by
  have hp' : p.size ≤ maxLen := by unfold maxLen; omega
  have HV := Lib.hid (fun w => implPredValid p w hp')
  have HST := Lib.hid hst
  clear hst
  by_cases h2 : 0 ≤ varNo v
  · obtain ⟨n, c, hn, rfl, hc, hvn⟩ := var_is h2
    have HA := Lib.hid (fun w hs => implAssigned n hn c hc e he w hs)
    go_enter Tryd.func12, Tryd.ntmps12
    go_wp2_with fail
    refine (HA.out _ (stride_below HST.out ((Below.refl _ w).alloc (Nat.le_refl _) _))).mono ?_
    rintro x w1 (⟨h3, rfl, hb1⟩ | ⟨b, k, g, cap, h3, hi, rfl, rfl, hO, hb1⟩)
    · have H := Lib.hid (show preV p ⟨#[c]⟩ e = none by simp [preV, okA, h3])
      have HB1 := Lib.hid (((Below.refl w.heap.size w).alloc (Nat.le_refl _) (.cells #[.string p] 9)).trans (hb1.mono (by simp)))
      have hl1 : w.heap.size < w1.heap.size := by have := hb1.size; simp at this; omega
      have hc0 : w1.cell? ⟨w.heap.size, 0, none⟩ = some (.string p) := (hb1.cell (p := ⟨w.heap.size, 0, none⟩) (by simp)).trans (by simp [World.cell?_alloc_at])
      clear h3 hb1
      go_wp2_with (go_at_call 28; refine (HV.out _).mono ?_; rintro x w2 ⟨rfl, rfl⟩)
      exact bodyPost_ret (v := .tuple #[.string ⟨#[]⟩, .bool false]) (by simp [results, Tryd.results12, go_sem]) rfl ⟨by rw [H.out]; rfl, HB1.out.alloc HB1.out.size _⟩
    · have HB1 := Lib.hid (((Below.refl w.heap.size w).alloc (Nat.le_refl _) (.cells #[.string p] 9)).trans (hb1.mono (by simp)))
      have hl1 : w.heap.size < w1.heap.size := by have := hb1.size; simp at this; omega
      have hc0 : w1.cell? ⟨w.heap.size, 0, none⟩ = some (.string p) := (hb1.cell (p := ⟨w.heap.size, 0, none⟩) (by simp)).trans (by simp [World.cell?_alloc_at])
      cases h1 : bitsB p 27 with
      | false =>
        have H := Lib.hid (show preV p ⟨#[c]⟩ (bs (tx b k)) = none by simp [preV, okA, h1])
        rw [h1] at HV
        clear h3 hb1 h1 hO
        go_wp2_with (go_at_call 28; refine (HV.out _).mono ?_; rintro x w2 ⟨rfl, rfl⟩)
        exact bodyPost_ret (v := .tuple #[.string ⟨#[]⟩, .bool false]) (by simp [results, Tryd.results12, go_sem]) rfl ⟨by rw [H.out]; rfl, HB1.out.alloc HB1.out.size _⟩
      | true =>
        have H := Lib.hid (show preV p ⟨#[c]⟩ (bs (tx b k)) = some (mk 27 fun i => bt (one p (toN n b k i))) by
          rw [preV, if_pos (by simp [okA, h1, h2, h3])]
          simp only [toE_is hvn hi])
        rw [h1] at HV
        obtain ⟨h27, hg0, hgl, hcl⟩ := ints_cell hO
        clear h27
        have HT := Lib.hid (tells_pre p (toN n b k) (w1.alloc (.cells #[.slice (some ⟨g, 0, none⟩) 27 cap] 34)) w.heap.size w1.heap.size g cap
          ((((Below.refl w1.heap.size w1).alloc (Nat.le_refl _) _).cell (p := ⟨w.heap.size, 0, none⟩) hl1).trans hc0) (by simp [World.cell?_alloc_at]) (by have := bits_size h1; omega) (fun i hi => to_lt n b k i hi)
          (fun i hi => (((Below.refl w1.heap.size w1).alloc (Nat.le_refl _) _).cell (p := ⟨g, i, none⟩) hgl).trans (hcl i _ (by simp [toL, hi]))))
        have HM := Lib.hid (makeSet 30 #[.pointer (some ⟨w.heap.size, 0, none⟩), .pointer (some ⟨w1.heap.size, 0, none⟩)] _ _ (fun _ _ => by simp [go_sem]) HT.out)
        obtain ⟨s, hs⟩ : ∃ s, mk 27 (fun i => bt (one p (toN n b k i))) = s := ⟨_, rfl⟩
        have HM' := HM.out
        change Calls _ _ _ _ (fun e w' => e = .returned (.string (mk 27 fun i => bt (one p (toN n b k i)))) ∧ _) at HM'
        rw [hs] at H HM'
        have HM := Lib.hid HM'
        clear h3 hb1 h1 hO hcl hg0 hgl HT HM' hs
        go_wp2_with (first | (go_at_call 28; refine (HV.out _).mono ?_; rintro x w2 ⟨rfl, rfl⟩) | (go_at_call 29; refine (HM.out).mono ?_; rintro x w3 ⟨rfl, hb3⟩))
        exact bodyPost_ret (v := .tuple #[.string s, .bool true]) (by simp [results, Tryd.results12, go_sem]) rfl ⟨by rw [H.out]; rfl, (HB1.out.alloc HB1.out.size _).trans (hb3.mono (by have := HB1.out.size; simp; omega))⟩
  · have H := Lib.hid (show preV p v e = none by simp [preV, okA, h2])
    have HA := Lib.hid (fun w => implAssignedBad v e he w h2)
    clear h2
    go_enter Tryd.func12, Tryd.ntmps12
    go_wp2_with fail
    refine (HA.out _).mono ?_
    rintro x w1 ⟨rfl, hb1⟩
    have HB1 := Lib.hid (((Below.refl w.heap.size w).alloc (Nat.le_refl _) (.cells #[.string p] 9)).trans (hb1.mono (by simp)))
    have hl1 : w.heap.size < w1.heap.size := by have := hb1.size; simp at this; omega
    have hc0 : w1.cell? ⟨w.heap.size, 0, none⟩ = some (.string p) := (hb1.cell (p := ⟨w.heap.size, 0, none⟩) (by simp)).trans (by simp [World.cell?_alloc_at])
    clear hb1
    go_wp2_with (go_at_call 28; refine (HV.out _).mono ?_; rintro x w2 ⟨rfl, rfl⟩)
    exact bodyPost_ret (v := .tuple #[.string ⟨#[]⟩, .bool false]) (by simp [results, Tryd.results12, go_sem]) rfl ⟨by rw [H.out]; rfl, HB1.out.alloc HB1.out.size _⟩
set_option maxRecDepth 100000 in
set_option maxHeartbeats 1000000 in
theorem lawAssignPre (p v e : ByteArray) (w : World) (hp : p.size ≤ maxLen) (hv : v.size ≤ maxLen) (he : e.size ≤ maxLen) (hst : strideAt w) :
    Calls Tryd.prog 5 #[.string p, .string v, .string e] w fun e' w' => e' = .returned (.bool true) ∧ Below w.heap.size w w' := by
  by_cases bigp : p.size ≤ 1048576
  case neg =>
    clear hst
    go_enter Tryd.func5, Tryd.ntmps5
    go_wp2
    go_ret
    exact ⟨rfl, Below.refl _ _⟩
  by_cases bigv : v.size ≤ 1048576
  case neg =>
    clear hst
    go_enter Tryd.func5, Tryd.ntmps5
    go_wp2
    go_ret
    exact ⟨rfl, Below.refl _ _⟩
  by_cases bige : e.size ≤ 1048576
  case neg =>
    clear hst
    go_enter Tryd.func5, Tryd.ntmps5
    go_wp2
    go_ret
    exact ⟨rfl, Below.refl _ _⟩
  have HS := Lib.hid (fun w => specAssignPre p v e w bigp bige)
  have HI := Lib.hid (fun w (h : strideAt w) => implAssignPre p v e w bigp bige h)
  have HX := Lib.hid hst
  clear hst
  cases hr : preV p v e
  all_goals
    rw [hr] at HS HI
    clear hr
    simp only [strV] at HS HI
    go_enter Tryd.func5, Tryd.ntmps5
    go_wp2_with (first | (go_at_call 11; refine (HS.out _).mono ?_; rintro x w1 ⟨rfl, hb1⟩) | (go_at_call 12; refine (HI.out _ (stride_below HX.out hb1)).mono ?_; rintro x w2 ⟨rfl, hb2⟩))
    go_ret
    exact ⟨by simp, hb1.trans (hb2.mono hb1.size)⟩
end Go.Proofs.YtkajfjbdlkkieaaDoor.As
