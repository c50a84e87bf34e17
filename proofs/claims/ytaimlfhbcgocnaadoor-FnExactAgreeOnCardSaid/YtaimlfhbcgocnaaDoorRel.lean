/- Contracts: relations read and told: l6Read, l6Text. -/
import Derived.Test.YtaimlfhbcgocnaaDoorMask
namespace Go.Proofs.YtaimlfhbcgocnaaDoor.Rl
open Go.RowKit Go.Deep Go.Proofs.YtaimlfhbcgocnaaDoor.Bi Go.Proofs.YtaimlfhbcgocnaaDoor.Ro Go.Proofs.YtaimlfhbcgocnaaDoor.Se Go.Proofs.YtaimlfhbcgocnaaDoor.Mk
set_option linter.unusedVariables false

/-- The relation of a text. -/
def relT (r : ByteArray) (i j : Nat) : Bool := one r (27 * i + j)
theorem one_cut {r : ByteArray} {a : Nat} (h : a + 27 ≤ r.size) (j : Nat) (hj : j < 27) : one (r.extract a (a + 27)) j = one r (a + j) := by
  unfold one
  simp only [ByteArray.data_extract, Array.toList_extract, List.extract_eq_take_drop, List.getElem?_take, List.getElem?_drop]
  rw [if_pos (by omega)]
theorem cut_size {r : ByteArray} {a : Nat} (h : a + 27 ≤ r.size) : (r.extract a (a + 27)).size = 27 := by
  rw [ByteArray.size_extract]; omega
/-- What stands in the array behind k rounds. -/
def upTo (g : Nat → Nat) (k : Nat) (i : Nat) : Value := if i < k then .int .i64 (g i : Int) else .int .i64 0
theorem up_zero {w : World} {b t : Nat} {g : Nat → Nat} (h : w.rowIs b t 27 (fun _ => .int .i64 0)) : w.rowIs b t 27 (upTo g 0) := h.congr fun i _ => by simp [upTo]
theorem up_step {w : World} {b t k : Nat} {g : Nat → Nat} (h : w.rowIs b t 27 (upTo g k)) {v : Value} (hv : v = .int .i64 (g k : Int)) : (w.setCell ⟨b, k, none⟩ v).rowIs b t 27 (upTo g (k + 1)) :=
  (h.set k v).congr fun i _ => by
    subst hv
    unfold upTo
    by_cases e : i = k
    · subst e; simp
    · simp only [if_neg e]
      by_cases h1 : i < k
      · rw [if_pos h1, if_pos (by omega)]
      · rw [if_neg h1, if_neg (by omega)]
theorem up_all {w : World} {b t : Nat} {g : Nat → Nat} (h : w.rowIs b t 27 (upTo g 27)) : w.rowIs b t 27 (fun i => .int .i64 (g i : Int)) := h.congr fun i hi => by simp [upTo, hi]
theorem set_range (w : World) (b : Nat) (g : Nat → Nat) (h : w.there b 0 27) : (w.setCells b 0 (cellsOf g)).rangeAt b 0 (cellsOf g) := World.rangeAt_setCells_same w b 0 (cellsOf g) (by rw [cells_len]; exact h)
theorem wp_world {P : Program} {c : Code} {Q : Exit → Act → World → Prop} {a : Act} {w : World} (R : World → Prop) (h : R w) (k : ∀ W, R W → c.wp P Q a W) : c.wp P Q a w := k w h
def zero27 : Array Value := #[.int .i64 0, .int .i64 0, .int .i64 0, .int .i64 0, .int .i64 0, .int .i64 0, .int .i64 0, .int .i64 0, .int .i64 0, .int .i64 0, .int .i64 0, .int .i64 0, .int .i64 0, .int .i64 0, .int .i64 0, .int .i64 0, .int .i64 0, .int .i64 0, .int .i64 0, .int .i64 0, .int .i64 0, .int .i64 0, .int .i64 0, .int .i64 0, .int .i64 0, .int .i64 0, .int .i64 0]
theorem rows_two (w : World) (t : TypeId) : ((w.alloc (.cells zero27 t)).alloc (.cells zero27 t)).rowIs (w.heap.size + 1) t 27 (fun _ => .int .i64 0) ∧ (∃ f, ((w.alloc (.cells zero27 t)).alloc (.cells zero27 t)).rowIs w.heap.size t 27 f) ∧ Below w.heap.size w ((w.alloc (.cells zero27 t)).alloc (.cells zero27 t)) := by
  have h := row_zero27 (w.alloc (.cells zero27 t)) t
  rw [show (w.alloc (.cells zero27 t)).heap.size = w.heap.size + 1 by simp] at h
  exact ⟨h, ⟨_, (row_zero27 w t).alloc _⟩, ((Below.refl _ w).alloc (Nat.le_refl _) _).alloc (by simp) _⟩
theorem results_cell {P : Program} {fn : Func} {t : Tmp} {ty : TypeId} {w : World} {v : Value} (h : fn.results = #[.cell t ty]) (tmps : Array Value) (b : Addr) (ht : tmps.getD t undef = .pointer (some b)) (hl : (loadVar ty b).run P w = .ok v w) : (results fn tmps).run P w = .ok v w := by
  have ht' : tmps[t]?.getD undef = .pointer (some b) := by rw [← ht, Array.getD_eq_getD_getElem?]
  simp [results, h, asAddr, ht', hl]
theorem row_cells {b t n : Nat} : ∀ (vs : List Value) (o : Nat) (w : World) (f : Nat → Value), w.rowIs b t n f → (∀ j v, vs[j]? = some v → f (o + j) = v) → (w.setCells b o vs).rowIs b t n f
  | [], o, w, f, h, _ => h
  | v :: vs, o, w, f, h, hv => row_cells vs (o + 1) _ f ((h.set o v).congr fun i _ => by
      by_cases e : i = o
      · subst e; simp; exact (hv 0 v rfl).symm
      · simp [e]) (fun j u hu => by rw [show o + 1 + j = o + (j + 1) by omega]; exact hv (j + 1) u hu)
theorem row_other {b b' t n : Nat} : ∀ (vs : List Value) (o : Nat) (w : World) (f : Nat → Value), w.rowIs b t n f → b ≠ b' → (w.setCells b' o vs).rowIs b t n f
  | [], o, w, f, h, _ => h
  | v :: vs, o, w, f, h, hb => row_other vs (o + 1) _ f (h.setOther (by simpa using hb) v) hb
theorem below_cells {B b : Nat} {a : World} (hB : B ≤ b) : ∀ (vs : List Value) (o : Nat) (w : World), Below B a w → Below B a (w.setCells b o vs)
  | [], o, w, h => h
  | v :: vs, o, w, h => below_cells hB vs (o + 1) _ (h.setCell (p := ⟨b, o, none⟩) hB v)
theorem zero_all : ∀ (j : Nat) (v : Value), zero27.toList[j]? = some v → v = .int .i64 0 := by
  intro j v h
  have h1 := List.mem_of_getElem? h
  simp only [zero27, List.mem_cons, List.mem_nil_iff, or_false] at h1
  rcases h1 with h1 | h1 | h1 | h1 | h1 | h1 | h1 | h1 | h1 | h1 | h1 | h1 | h1 | h1 | h1 | h1 | h1 | h1 | h1 | h1 | h1 | h1 | h1 | h1 | h1 | h1 | h1 <;> exact h1
theorem zero_one : zero27.all (·.oneCell') = true := Array.all_eq_true_iff_forall_mem.2 fun v hv => by
  have h1 : v ∈ zero27.toList := by simpa using hv
  obtain ⟨j, hj⟩ := List.mem_iff_getElem?.1 h1
  rw [zero_all j v hj]; rfl
theorem rows_laid (w : World) (t : TypeId) : (((w.alloc (.cells zero27 t)).alloc (.cells zero27 t)).setCells (w.heap.size + 1) 0 zero27.toList).rowIs (w.heap.size + 1) t 27 (fun _ => .int .i64 0) ∧ (∃ f, (((w.alloc (.cells zero27 t)).alloc (.cells zero27 t)).setCells (w.heap.size + 1) 0 zero27.toList).rowIs w.heap.size t 27 f) ∧
    Below w.heap.size w (((w.alloc (.cells zero27 t)).alloc (.cells zero27 t)).setCells (w.heap.size + 1) 0 zero27.toList) := by
  obtain ⟨h1, ⟨f, h2⟩, h3⟩ := rows_two w t
  exact ⟨row_cells _ _ _ _ h1 (fun j v hv => (zero_all j v hv).symm), ⟨f, row_other _ _ _ _ h2 (by omega)⟩, below_cells (by omega) _ _ _ h3⟩
/-! ### A relation as a text -/
theorem mk_append (a b : Nat) (f g : Nat → UInt8) : mk a f ++ mk b g = mk (a + b) (fun i => if i < a then f i else g (i - a)) := by
  apply ByteArray.ext
  simp only [ByteArray.data_append, mk]
  apply Array.toList_inj.1
  rw [Array.toList_append, List.range_add, List.map_append, List.map_map]
  congr 1
  · exact List.map_congr_left fun i hi => by rw [if_pos (by simpa using hi)]
  · exact List.map_congr_left fun i _ => by simp; intro h; omega
/-- The text of a relation, its first so many rows. -/
def relS (R : Nat → Nat → Bool) (k : Nat) : ByteArray := mk (27 * k) fun i => bt (R (i / 27) (i % 27))
theorem relS_zero (R : Nat → Nat → Bool) : relS R 0 = ⟨#[]⟩ := rfl
theorem relS_size (R : Nat → Nat → Bool) (k : Nat) : (relS R k).size = 27 * k := mk_size _ _
theorem relS_step (R : Nat → Nat → Bool) (k : Nat) : relS R (k + 1) = relS R k ++ mk 27 (fun j => bt (R k j)) := by
  unfold relS
  rw [mk_append, show 27 * (k + 1) = 27 * k + 27 by omega]
  refine mk_congr fun i hi => ?_
  by_cases h : i < 27 * k
  · rw [if_pos h]
  · rw [if_neg h, show i / 27 = k by omega, show i % 27 = i - 27 * k by omega]
set_option maxRecDepth 100000 in
set_option maxHeartbeats 1000000 in
theorem textAny (R : Nat → Nat → Bool) (g : Nat → Nat) (w : World)
    (HX : Hid (∀ k, k < 27 → ∀ w, Calls Tryd.prog 24 #[.int .i64 (g k : Int)] w fun e w' => e = .returned (.string (mk 27 fun j => bt (R k j))) ∧ Below w.heap.size w w')) :
    Calls Tryd.prog 15 #[arr g] w fun e w' => e = .returned (.string (relS R 27)) ∧ Below w.heap.size w w' := by
  have hro := row_box w g 32
  have hbb : Below w.heap.size w (w.alloc (.cells (cellsOf g).toArray 32)) := (Below.refl _ w).alloc (Nat.le_refl _) _
  have hsz : (w.alloc (.cells (cellsOf g).toArray 32)).heap.size = w.heap.size + 1 := by simp
  unfold arr
  obtain ⟨cs, hcs⟩ : ∃ cs, (cellsOf g).toArray = cs := ⟨_, rfl⟩
  rw [hcs] at hro hbb hsz ⊢
  clear hcs
  go_enter Tryd.func15, Tryd.ntmps15
  go_wp2_with fail
  refine wp_world (fun W => W.rowIs w.heap.size 32 27 (fun i => .int .i64 (g i : Int)) ∧ Below w.heap.size w W ∧ W.heap.size = w.heap.size + 1) ⟨hro, hbb, hsz⟩ ?_
  rintro W0 ⟨r0, r1, r2⟩
  clear hro hbb hsz
  go_loopw [3, 4] (fun out i wr => ∃ k : Nat, k ≤ 27 ∧ i = .int .i64 k ∧ out = .string (relS R k) ∧ Below w.heap.size w wr ∧ Below W0.heap.size W0 wr) (fun _ i _ => 27 - (intOf i).toNat)
  case atStart => exact ⟨0, Nat.zero_le _, rfl, rfl, r1, Below.refl _ _⟩
  case round =>
    obtain ⟨k, hk, rfl, rfl, hb, hb0⟩ := hrel
    have hz := relS_size R k
    by_cases hlt : k < 27
    · have hcell : wr.cell? ⟨w.heap.size, k, none⟩ = some (.int .i64 (g k : Int)) := by rw [hb0.cell (show w.heap.size < W0.heap.size by omega)]; exact r0.cell hlt
      have HC := Lib.hid (HX.out k hlt)
      have HS := Lib.hid (relS_step R k)
      have hz2 : (mk 27 fun j => bt (R k j)).size = 27 := mk_size _ _
      obtain ⟨y, hy⟩ : ∃ y, (mk 27 fun j => bt (R k j)) = y := ⟨_, rfl⟩
      obtain ⟨x, hx⟩ : ∃ x, relS R k = x := ⟨_, rfl⟩
      rw [hy] at HC HS hz2
      rw [hx] at HS hz
      rw [hx]
      clear hy hx
      go_wp2_with fail
      refine (HC.out _).mono ?_
      rintro e w1 ⟨rfl, hb1⟩
      go_wp2_with fail
      go_roundw
      case rel => exact ⟨k + 1, by omega, by go_num, by rw [HS.out], hb.trans (hb1.mono hb.size), hb0.trans (hb1.mono hb0.size)⟩
      case measure => simp [intOf]; omega
    · obtain rfl : k = 27 := by omega
      go_wp2_with fail
      go_ret
      exact ⟨rfl, hb⟩
theorem specRelText (R : Nat → Nat → Bool) (w : World) : Calls Tryd.prog 15 #[arrR R] w fun e w' => e = .returned (.string (relS R 27)) ∧ Below w.heap.size w w' :=
  textAny R _ w (Lib.hid fun k _ w => specText (R k) w)
end Go.Proofs.YtaimlfhbcgocnaaDoor.Rl
