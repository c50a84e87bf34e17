/- Contracts: relations read and told: l6Read, l6Text. -/
import Derived.Test.YtnamdobckkhceaaMask
namespace Go.Proofs.Ytnamdobckkhceaa.Rl
open Go.RowKit Go.Deep Go.Proofs.Ytnamdobckkhceaa.Bi Go.Proofs.Ytnamdobckkhceaa.Ro Go.Proofs.Ytnamdobckkhceaa.Se Go.Proofs.Ytnamdobckkhceaa.Mk
set_option linter.unusedVariables false

/-- The relation of a text. -/
def relT (r : ByteArray) (i j : Nat) : Bool := one r (27 * i + j)
theorem one_cut {r : ByteArray} {a : Nat} (h : a + 27 ≤ r.size) (j : Nat) (hj : j < 27) : one (r.extract a (a + 27)) j = one r (a + j) := by
  unfold one
  simp only [ByteArray.data_extract, Array.toList_extract, List.extract_eq_take_drop, List.getElem?_take, List.getElem?_drop]
  rw [if_pos (by omega)]
theorem cut_size {r : ByteArray} {a : Nat} (h : a + 27 ≤ r.size) : (r.extract a (a + 27)).size = 27 := by
  rw [ByteArray.size_extract]; omega
/-- What stands in the array behind k rounds. -/
def upTo (g : Nat → Nat) (k : Nat) (i : Nat) : Value := if i < k then .int .i64 (g i : Int) else .int .i64 0
theorem up_zero {w : World} {b t : Nat} {g : Nat → Nat} (h : w.rowIs b t 27 (fun _ => .int .i64 0)) : w.rowIs b t 27 (upTo g 0) := h.congr fun i _ => by simp [upTo]
theorem up_step {w : World} {b t k : Nat} {g : Nat → Nat} (h : w.rowIs b t 27 (upTo g k)) {v : Value} (hv : v = .int .i64 (g k : Int)) : (w.setCell ⟨b, k, none⟩ v).rowIs b t 27 (upTo g (k + 1)) :=
  (h.set k v).congr fun i _ => by
    subst hv
    unfold upTo
    by_cases e : i = k
    · subst e; simp
    · simp only [if_neg e]
      by_cases h1 : i < k
      · rw [if_pos h1, if_pos (by omega)]
      · rw [if_neg h1, if_neg (by omega)]
theorem up_all {w : World} {b t : Nat} {g : Nat → Nat} (h : w.rowIs b t 27 (upTo g 27)) : w.rowIs b t 27 (fun i => .int .i64 (g i : Int)) := h.congr fun i hi => by simp [upTo, hi]
theorem set_range (w : World) (b : Nat) (g : Nat → Nat) (h : w.there b 0 27) : (w.setCells b 0 (cellsOf g)).rangeAt b 0 (cellsOf g) := World.rangeAt_setCells_same w b 0 (cellsOf g) (by rw [cells_len]; exact h)
theorem wp_world {P : Program} {c : Code} {Q : Exit → Act → World → Prop} {a : Act} {w : World} (R : World → Prop) (h : R w) (k : ∀ W, R W → c.wp P Q a W) : c.wp P Q a w := k w h
def zero27 : Array Value := #[.int .i64 0, .int .i64 0, .int .i64 0, .int .i64 0, .int .i64 0, .int .i64 0, .int .i64 0, .int .i64 0, .int .i64 0, .int .i64 0, .int .i64 0, .int .i64 0, .int .i64 0, .int .i64 0, .int .i64 0, .int .i64 0, .int .i64 0, .int .i64 0, .int .i64 0, .int .i64 0, .int .i64 0, .int .i64 0, .int .i64 0, .int .i64 0, .int .i64 0, .int .i64 0, .int .i64 0]
theorem rows_two (w : World) (t : TypeId) : ((w.alloc (.cells zero27 t)).alloc (.cells zero27 t)).rowIs (w.heap.size + 1) t 27 (fun _ => .int .i64 0) ∧ (∃ f, ((w.alloc (.cells zero27 t)).alloc (.cells zero27 t)).rowIs w.heap.size t 27 f) ∧ Below w.heap.size w ((w.alloc (.cells zero27 t)).alloc (.cells zero27 t)) := by
  have h := row_zero27 (w.alloc (.cells zero27 t)) t
  rw [show (w.alloc (.cells zero27 t)).heap.size = w.heap.size + 1 by simp] at h
  exact ⟨h, ⟨_, (row_zero27 w t).alloc _⟩, ((Below.refl _ w).alloc (Nat.le_refl _) _).alloc (by simp) _⟩
theorem results_cell {P : Program} {fn : Func} {t : Tmp} {ty : TypeId} {w : World} {v : Value} (h : fn.results = #[.cell t ty]) (tmps : Array Value) (b : Addr) (ht : tmps.getD t undef = .pointer (some b)) (hl : (loadVar ty b).run P w = .ok v w) : (results fn tmps).run P w = .ok v w := by
  have ht' : tmps[t]?.getD undef = .pointer (some b) := by rw [← ht, Array.getD_eq_getD_getElem?]
  simp [results, h, asAddr, ht', hl]
theorem row_cells {b t n : Nat} : ∀ (vs : List Value) (o : Nat) (w : World) (f : Nat → Value), w.rowIs b t n f → (∀ j v, vs[j]? = some v → f (o + j) = v) → (w.setCells b o vs).rowIs b t n f
  | [], o, w, f, h, _ => h
  | v :: vs, o, w, f, h, hv => row_cells vs (o + 1) _ f ((h.set o v).congr fun i _ => by
      by_cases e : i = o
      · subst e; simp; exact (hv 0 v rfl).symm
      · simp [e]) (fun j u hu => by rw [show o + 1 + j = o + (j + 1) by omega]; exact hv (j + 1) u hu)
theorem row_other {b b' t n : Nat} : ∀ (vs : List Value) (o : Nat) (w : World) (f : Nat → Value), w.rowIs b t n f → b ≠ b' → (w.setCells b' o vs).rowIs b t n f
  | [], o, w, f, h, _ => h
  | v :: vs, o, w, f, h, hb => row_other vs (o + 1) _ f (h.setOther (by simpa using hb) v) hb
theorem below_cells {B b : Nat} {a : World} (hB : B ≤ b) : ∀ (vs : List Value) (o : Nat) (w : World), Below B a w → Below B a (w.setCells b o vs)
  | [], o, w, h => h
  | v :: vs, o, w, h => below_cells hB vs (o + 1) _ (h.setCell (p := ⟨b, o, none⟩) hB v)
theorem zero_all : ∀ (j : Nat) (v : Value), zero27.toList[j]? = some v → v = .int .i64 0 := by
  intro j v h
  have h1 := List.mem_of_getElem? h
  simp only [zero27, List.mem_cons, List.mem_nil_iff, or_false] at h1
  rcases h1 with h1 | h1 | h1 | h1 | h1 | h1 | h1 | h1 | h1 | h1 | h1 | h1 | h1 | h1 | h1 | h1 | h1 | h1 | h1 | h1 | h1 | h1 | h1 | h1 | h1 | h1 | h1 <;> exact h1
theorem zero_one : zero27.all (·.oneCell') = true := Array.all_eq_true_iff_forall_mem.2 fun v hv => by
  have h1 : v ∈ zero27.toList := by simpa using hv
  obtain ⟨j, hj⟩ := List.mem_iff_getElem?.1 h1
  rw [zero_all j v hj]; rfl
theorem rows_laid (w : World) (t : TypeId) : (((w.alloc (.cells zero27 t)).alloc (.cells zero27 t)).setCells (w.heap.size + 1) 0 zero27.toList).rowIs (w.heap.size + 1) t 27 (fun _ => .int .i64 0) ∧ (∃ f, (((w.alloc (.cells zero27 t)).alloc (.cells zero27 t)).setCells (w.heap.size + 1) 0 zero27.toList).rowIs w.heap.size t 27 f) ∧
    Below w.heap.size w (((w.alloc (.cells zero27 t)).alloc (.cells zero27 t)).setCells (w.heap.size + 1) 0 zero27.toList) := by
  obtain ⟨h1, ⟨f, h2⟩, h3⟩ := rows_two w t
  exact ⟨row_cells _ _ _ _ h1 (fun j v hv => (zero_all j v hv).symm), ⟨f, row_other _ _ _ _ h2 (by omega)⟩, below_cells (by omega) _ _ _ h3⟩
set_option maxRecDepth 100000 in
set_option maxHeartbeats 1000000 in
theorem readAny (r : ByteArray) (g : Nat → Nat) (w : World) (hs : r.size = 729)
    (HX : Hid (∀ k, k < 27 → ∀ w, Calls Try.prog 33 #[.string (r.extract (27 * k) (27 * k + 27))] w fun e w' => e = .returned (.int .i64 (g k : Int)) ∧ w = w')) (HA : Hid (arr g = arrR (relT r))) :
    Calls Try.prog 32 #[.string r] w fun e w' => e = .returned (arrR (relT r)) ∧ Below w.heap.size w w' := by
  have hth := Lib.hid (show ((w.alloc (.cells zero27 39)).alloc (.cells zero27 39)).there (w.heap.size + 1) 0 27 from row_there (rows_two w _).1)
  have hone := Lib.hid zero_one
  go_enter Try.func32, Try.ntmps32
  go_wp2_with (refine wpList_store_mid rfl 39 (.tmp 3) (.tmp 5) rfl (w.heap.size + 1) 0 zero27 rfl rfl hth.out info39 hone.out ?_)
  refine wp_world (fun W => W.rowIs (w.heap.size + 1) 39 27 (fun _ => .int .i64 0) ∧ (∃ f, W.rowIs w.heap.size 39 27 f) ∧ Below w.heap.size w W) (rows_laid w _) ?_
  rintro W0 ⟨r0, r1, r2⟩
  go_loopw [4] (fun i wr => ∃ k : Nat, k ≤ 27 ∧ i = .int .i64 k ∧ wr.rowIs (w.heap.size + 1) 39 27 (upTo g k) ∧ (∃ f, wr.rowIs w.heap.size 39 27 f) ∧ Below w.heap.size w wr) (fun i _ => 27 - (intOf i).toNat)
  case atStart => exact ⟨0, Nat.zero_le _, rfl, up_zero r0, r1, r2⟩
  case round =>
    obtain ⟨k, hk, rfl, hrow, hres, hb⟩ := hrel
    by_cases hlt : k < 27
    · have hcell := hrow.cell hlt
      have hfz := hrow.frozen k
      have HC := Lib.hid (HX.out k hlt)
      have HR := Lib.hid (up_step hrow (v := .int .i64 (g k : Int)) rfl)
      have HB := Lib.hid (hb.setCell (p := ⟨w.heap.size + 1, k, none⟩) (Nat.le_succ _) (.int .i64 (g k : Int)))
      obtain ⟨f, hf⟩ := hres
      have HF := Lib.hid (show ∃ f, (wr.setCell ⟨w.heap.size + 1, k, none⟩ (.int .i64 (g k : Int))).rowIs w.heap.size 39 27 f from ⟨f, hf.setOther (by simp) _⟩)
      have i1 : (27 : Int) * (k : Int) + 27 ≤ (r.size : Int) := by omega
      have i2 : ((27 : Int) * (k : Int)).toNat = 27 * k := by omega
      have i3 : ((27 : Int) * (k : Int) + 27).toNat = 27 * k + 27 := by omega
      have i4 : (0 : Int) ≤ 27 * (k : Int) := by omega
      have i5 : (27 : Int) * (k : Int) ≤ 27 * (k : Int) + 27 := by omega
      clear hrow hb hf
      go_wp2_with fail
      refine (HC.out _).mono ?_
      rintro e w1 ⟨rfl, rfl⟩
      go_wp2_with fail
      go_roundw
      case rel => exact ⟨k + 1, by omega, by go_num, HR.out, HF.out, HB.out⟩
      case measure => simp [intOf]; omega
    · obtain rfl : k = 27 := by omega
      obtain ⟨f, hf⟩ := hres
      obtain ⟨cs, hcs⟩ : ∃ cs, cellsOf g = cs := ⟨_, rfl⟩
      have hlen : cs.length = 27 := by rw [← hcs, cells_len]
      have hra := Lib.hid (row_range (up_all hrow))
      have hth := Lib.hid (show wr.there w.heap.size 0 cs.toArray.size by simpa [hlen] using row_there hf)
      have hin := Lib.hid (show (Try.prog.info? 39).map (·.size) = some cs.length by rw [hlen]; exact info39)
      have hin2 := Lib.hid (show (Try.prog.info? 39).map (·.size) = some cs.toArray.size by simpa [hlen] using info39)
      have hre := run_loadVar_mid (P := Try.prog) (wr.setCells w.heap.size 0 (cellsOf g)) w.heap.size 0 39 _ _ (set_range wr w.heap.size g (row_there hf)) Try.underlying39 rfl (by rw [cells_len]; exact info39)
      have hone := Lib.hid (all_oneCell_toArray (cells_one g))
      have HAA := Lib.hid (show Value.agg cs.toArray = arrR (relT r) by rw [← HA.out, arr, hcs])
      rw [hcs] at hra hone hre
      have HRE := Lib.hid hre
      have HB := Lib.hid (below_cells (Nat.le_refl _) cs 0 wr hb)
      clear hf hrow hb hcs hre
      go_wp2_with (first
        | (refine wpList_load_mid rfl 39 (.tmp 3) rfl (w.heap.size + 1) 0 rfl cs _ hra.out Try.underlying39 rfl hin.out ?_)
        | (refine wpList_store_mid rfl 39 (.tmp 2) (.tmp 20) rfl w.heap.size 0 cs.toArray rfl rfl hth.out hin2.out hone.out ?_))
      refine bodyPost_ret (v := arrR (relT r)) ?_ rfl ⟨rfl, HB.out⟩
      rw [← HAA.out]
      exact results_cell Try.results32 _ ⟨w.heap.size, 0, none⟩ rfl HRE.out
theorem specRead (r : ByteArray) (w : World) (hs : r.size = 729) :
    Calls Try.prog 32 #[.string r] w fun e w' => e = .returned (arrR (relT r)) ∧ Below w.heap.size w w' := by
  have HX : Hid (∀ k, k < 27 → ∀ w, Calls Try.prog 33 #[.string (r.extract (27 * k) (27 * k + 27))] w fun e w' => e = .returned (.int .i64 (msk (relT r k) 27 : Int)) ∧ w = w') := Lib.hid (fun k hk w => by
    have q1 : 27 * k + 27 ≤ r.size := by omega
    have h := specMask (r.extract (27 * k) (27 * k + 27)) w (by rw [cut_size q1]; omega)
    rw [cut_size q1, msk_congr fun j hj => one_cut q1 j hj] at h
    exact h)
  obtain ⟨g, hg⟩ : ∃ g : Nat → Nat, (fun i => msk (relT r i) 27) = g := ⟨_, rfl⟩
  have HA := Lib.hid (show arr g = arrR (relT r) by rw [arrR, hg])
  have HX' : Hid (∀ k, k < 27 → ∀ w, Calls Try.prog 33 #[.string (r.extract (27 * k) (27 * k + 27))] w fun e w' => e = .returned (.int .i64 (g k : Int)) ∧ w = w') := Lib.hid (fun k hk w => by rw [← hg]; exact HX.out k hk w)
  clear HX hg
  exact readAny r g w hs HX' HA
/-! ### A relation as a text -/
theorem mk_append (a b : Nat) (f g : Nat → UInt8) : mk a f ++ mk b g = mk (a + b) (fun i => if i < a then f i else g (i - a)) := by
  apply ByteArray.ext
  simp only [ByteArray.data_append, mk]
  apply Array.toList_inj.1
  rw [Array.toList_append, List.range_add, List.map_append, List.map_map]
  congr 1
  · exact List.map_congr_left fun i hi => by rw [if_pos (by simpa using hi)]
  · exact List.map_congr_left fun i _ => by simp; intro h; omega
/-- The text of a relation, its first so many rows. -/
def relS (R : Nat → Nat → Bool) (k : Nat) : ByteArray := mk (27 * k) fun i => bt (R (i / 27) (i % 27))
theorem relS_zero (R : Nat → Nat → Bool) : relS R 0 = ⟨#[]⟩ := rfl
theorem relS_size (R : Nat → Nat → Bool) (k : Nat) : (relS R k).size = 27 * k := mk_size _ _
theorem relS_step (R : Nat → Nat → Bool) (k : Nat) : relS R (k + 1) = relS R k ++ mk 27 (fun j => bt (R k j)) := by
  unfold relS
  rw [mk_append, show 27 * (k + 1) = 27 * k + 27 by omega]
  refine mk_congr fun i hi => ?_
  by_cases h : i < 27 * k
  · rw [if_pos h]
  · rw [if_neg h, show i / 27 = k by omega, show i % 27 = i - 27 * k by omega]
set_option maxRecDepth 100000 in
set_option maxHeartbeats 1000000 in
theorem textAny (R : Nat → Nat → Bool) (g : Nat → Nat) (w : World)
    (HX : Hid (∀ k, k < 27 → ∀ w, Calls Try.prog 34 #[.int .i64 (g k : Int)] w fun e w' => e = .returned (.string (mk 27 fun j => bt (R k j))) ∧ Below w.heap.size w w')) :
    Calls Try.prog 44 #[arr g] w fun e w' => e = .returned (.string (relS R 27)) ∧ Below w.heap.size w w' := by
  have hro := row_box w g 39
  have hbb : Below w.heap.size w (w.alloc (.cells (cellsOf g).toArray 39)) := (Below.refl _ w).alloc (Nat.le_refl _) _
  have hsz : (w.alloc (.cells (cellsOf g).toArray 39)).heap.size = w.heap.size + 1 := by simp
  unfold arr
  obtain ⟨cs, hcs⟩ : ∃ cs, (cellsOf g).toArray = cs := ⟨_, rfl⟩
  rw [hcs] at hro hbb hsz ⊢
  clear hcs
  go_enter Try.func44, Try.ntmps44
  go_wp2_with fail
  refine wp_world (fun W => W.rowIs w.heap.size 39 27 (fun i => .int .i64 (g i : Int)) ∧ Below w.heap.size w W ∧ W.heap.size = w.heap.size + 1) ⟨hro, hbb, hsz⟩ ?_
  rintro W0 ⟨r0, r1, r2⟩
  clear hro hbb hsz
  go_loopw [3, 4] (fun out i wr => ∃ k : Nat, k ≤ 27 ∧ i = .int .i64 k ∧ out = .string (relS R k) ∧ Below w.heap.size w wr ∧ Below W0.heap.size W0 wr) (fun _ i _ => 27 - (intOf i).toNat)
  case atStart => exact ⟨0, Nat.zero_le _, rfl, rfl, r1, Below.refl _ _⟩
  case round =>
    obtain ⟨k, hk, rfl, rfl, hb, hb0⟩ := hrel
    have hz := relS_size R k
    by_cases hlt : k < 27
    · have hcell : wr.cell? ⟨w.heap.size, k, none⟩ = some (.int .i64 (g k : Int)) := by rw [hb0.cell (show w.heap.size < W0.heap.size by omega)]; exact r0.cell hlt
      have HC := Lib.hid (HX.out k hlt)
      have HS := Lib.hid (relS_step R k)
      have hz2 : (mk 27 fun j => bt (R k j)).size = 27 := mk_size _ _
      obtain ⟨y, hy⟩ : ∃ y, (mk 27 fun j => bt (R k j)) = y := ⟨_, rfl⟩
      obtain ⟨x, hx⟩ : ∃ x, relS R k = x := ⟨_, rfl⟩
      rw [hy] at HC HS hz2
      rw [hx] at HS hz
      rw [hx]
      clear hy hx
      go_wp2_with fail
      refine (HC.out _).mono ?_
      rintro e w1 ⟨rfl, hb1⟩
      go_wp2_with fail
      go_roundw
      case rel => exact ⟨k + 1, by omega, by go_num, by rw [HS.out], hb.trans (hb1.mono hb.size), hb0.trans (hb1.mono hb0.size)⟩
      case measure => simp [intOf]; omega
    · obtain rfl : k = 27 := by omega
      go_wp2_with fail
      go_ret
      exact ⟨rfl, hb⟩
theorem specRelText (R : Nat → Nat → Bool) (w : World) : Calls Try.prog 44 #[arrR R] w fun e w' => e = .returned (.string (relS R 27)) ∧ Below w.heap.size w w' :=
  textAny R _ w (Lib.hid fun k _ w => specText (R k) w)
end Go.Proofs.Ytnamdobckkhceaa.Rl
