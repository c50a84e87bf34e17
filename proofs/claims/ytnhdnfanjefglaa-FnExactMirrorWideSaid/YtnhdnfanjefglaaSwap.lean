/- Contracts and law: SwapProgram. -/
import Derived.Test.YtnhdnfanjefglaaSw
import Derived.Test.YtnhdnfanjefglaaRow
import Derived.Test.YtnhdnfanjefglaaVar
namespace Go.Proofs.Ytnhdnfanjefglaa.Sp
open Go.RowKit Go.Deep Go.Proofs.Ytnhdnfanjefglaa.Pl Go.Proofs.Ytnhdnfanjefglaa.Bi Go.Proofs.Ytnhdnfanjefglaa.Fi Go.Proofs.Ytnhdnfanjefglaa.Ed Go.Proofs.Ytnhdnfanjefglaa.Ps Go.Proofs.Ytnhdnfanjefglaa.Sw Go.Proofs.Ytnhdnfanjefglaa.Ro Go.Proofs.Ytnhdnfanjefglaa.Va
set_option linter.unusedVariables false

/-- A row of bytes out of a text: its room may be larger, and the mark lies behind it. -/
def rowB (w : World) (b : Nat) (t : TypeId) (n : Nat) (f : Nat → Value) : Prop :=
  ∃ (c : Array Value), w.heap[b]? = some (.cells c t (c.size, c.size + 1)) ∧ n ≤ c.size ∧ ∀ i, i < n → c[i]? = some (f i)
theorem rowB.cell {w : World} {b : Nat} {t : TypeId} {n : Nat} {f : Nat → Value} (h : rowB w b t n f) {i : Nat} (hi : i < n) : w.cell? ⟨b, i, none⟩ = some (f i) := by
  obtain ⟨c, hb, _, hc⟩ := h
  simp [World.cell?, hb, hc i hi]
theorem rowB.frozen {w : World} {b : Nat} {t : TypeId} {n : Nat} {f : Nat → Value} (h : rowB w b t n f) {i : Nat} (hi : i < n) : w.frozen? ⟨b, i, none⟩ = false := by
  obtain ⟨c, hb, hn, _⟩ := h
  simp [World.frozen?, hb]
  omega
theorem rowB.congr {w : World} {b : Nat} {t : TypeId} {n : Nat} {f g : Nat → Value} (h : rowB w b t n f) (e : ∀ i, i < n → f i = g i) : rowB w b t n g := by
  obtain ⟨c, hb, hn, hc⟩ := h
  exact ⟨c, hb, hn, fun i hi => by rw [hc i hi, e i hi]⟩
theorem rowB.set {w : World} {b : Nat} {t : TypeId} {n : Nat} {f : Nat → Value} (h : rowB w b t n f) (i : Nat) (v : Value) : rowB (w.setCell ⟨b, i, none⟩ v) b t n (fun j => if j = i then v else f j) := by
  obtain ⟨c, hb, hn, hc⟩ := h
  refine ⟨c.setIfInBounds i v, ?_, by simpa using hn, fun j hj => ?_⟩
  · simp [World.setCell, Array.getElem?_modify, hb]
  · rw [Array.getElem?_setIfInBounds]
    by_cases e : j = i
    · subst e
      simp only [if_true]
      rw [if_pos (by omega)]
    · rw [if_neg (fun h => e h.symm)]
      show c[j]? = some (if j = i then v else f j)
      rw [if_neg e]
      exact hc j hj
/-- The i-th byte. -/
def byt (s : ByteArray) (i : Nat) : UInt8 := s.data.toList.getD i 0
theorem byt_at {s : ByteArray} {i : Nat} (h : i < s.size) : byt s i = s[i] := by
  unfold byt
  rw [List.getD_eq_getElem?_getD, List.getElem?_eq_getElem (by simpa using h)]
  rfl
theorem rowB_drewN {w : World} {b : Nat} {t : TypeId} {n : Nat} {f : Nat → Value} (h : rowB w b t n f) (m : Nat) : rowB (w.drewN m) b t n f := by
  obtain ⟨c, hb, r⟩ := h
  exact ⟨c, hb, r⟩
theorem rowB_made (w : World) (s : ByteArray) (t : TypeId) (m : Nat) :
    rowB (w.alloc (.cells (bytesRow s m) t ((bytesRow s m).size, (bytesRow s m).size + 1))) w.heap.size t s.size (fun i => .int .u8 (byt s i).toNat) := by
  refine ⟨bytesRow s m, blk_alloc_new _ _, ?_, fun i hi => ?_⟩
  · unfold bytesRow
    rw [Array.size_append, Array.size_map]
    exact Nat.le_add_right _ _
  · show _ = some (Value.int .u8 (byt s i).toNat)
    rw [byt_at hi]
    have hi' : i < s.data.size := hi
    unfold bytesRow
    rw [Array.getElem?_append_left (by simpa using hi')]
    simp only [Array.getElem?_map, Array.getElem?_eq_getElem hi', Option.map_some]
    rfl
def sw1 (x y b : UInt8) : UInt8 := if b = x then y else if b = y then x else b
def swapped (s : ByteArray) (x y : UInt8) : ByteArray := mk s.size fun i => sw1 x y (byt s i)
/-- What stands in the row behind k rounds. -/
def swTo (s : ByteArray) (x y : UInt8) (k : Nat) (j : Nat) : Value := if j < k then .int .u8 (sw1 x y (byt s j)).toNat else .int .u8 (byt s j).toNat
theorem sw_zero {w : World} {b t n : Nat} {s : ByteArray} {x y : UInt8} (h : rowB w b t n (fun i => .int .u8 (byt s i).toNat)) : rowB w b t n (swTo s x y 0) :=
  h.congr fun i _ => by simp [swTo]
theorem sw_all {w : World} {b t n : Nat} {s : ByteArray} {x y : UInt8} (h : rowB w b t n (swTo s x y n)) : rowB w b t n (fun i => .int .u8 (sw1 x y (byt s i)).toNat) :=
  h.congr fun i hi => by simp [swTo, hi]
theorem sw_set {w : World} {b t n : Nat} {s : ByteArray} {x y : UInt8} {k : Nat} (h : rowB w b t n (swTo s x y k)) {v : Value} (hv : v = .int .u8 (sw1 x y (byt s k)).toNat) : rowB (w.setCell ⟨b, k, none⟩ v) b t n (swTo s x y (k + 1)) :=
  (h.set k v).congr fun i _ => by
    subst hv
    unfold swTo
    by_cases e : i = k
    · subst e; simp
    · simp only [if_neg e]
      by_cases h1 : i < k
      · rw [if_pos h1, if_pos (by omega)]
      · rw [if_neg h1, if_neg (by omega)]
theorem sw_two {w : World} {b t n : Nat} {s : ByteArray} {x y : UInt8} {k : Nat} (h : rowB w b t n (swTo s x y k)) {u v : Value} (hv : v = .int .u8 (sw1 x y (byt s k)).toNat) : rowB ((w.setCell ⟨b, k, none⟩ u).setCell ⟨b, k, none⟩ v) b t n (swTo s x y (k + 1)) :=
  ((h.set k u).set k v).congr fun i _ => by
    subst hv
    unfold swTo
    by_cases e : i = k
    · subst e; simp
    · simp only [if_neg e]
      by_cases h1 : i < k
      · rw [if_pos h1, if_pos (by omega)]
      · rw [if_neg h1, if_neg (by omega)]
theorem sw_fin {w : World} {b t n : Nat} {s : ByteArray} {x y : UInt8} {k : Nat} {u : Value} (h : rowB w b t n (fun j => if j = k then u else swTo s x y k j)) (hv : u = .int .u8 (sw1 x y (byt s k)).toNat) : rowB w b t n (swTo s x y (k + 1)) :=
  h.congr fun i _ => by
    subst hv
    unfold swTo
    by_cases e : i = k
    · subst e; simp
    · simp only [if_neg e]
      by_cases h1 : i < k
      · rw [if_pos h1, if_pos (by omega)]
      · rw [if_neg h1, if_neg (by omega)]
theorem sw_again {w : World} {b t n : Nat} {s : ByteArray} {x y : UInt8} {k : Nat} {u v : Value} (h : rowB w b t n (fun j => if j = k then u else swTo s x y k j)) (hv : v = .int .u8 (sw1 x y (byt s k)).toNat) : rowB (w.setCell ⟨b, k, none⟩ v) b t n (swTo s x y (k + 1)) :=
  (h.set k v).congr fun i _ => by
    subst hv
    unfold swTo
    by_cases e : i = k
    · subst e; simp
    · simp only [if_neg e]
      by_cases h1 : i < k
      · rw [if_pos h1, if_pos (by omega)]
      · rw [if_neg h1, if_neg (by omega)]
theorem sw_keep {w : World} {b t n : Nat} {s : ByteArray} {x y : UInt8} {k : Nat} (h : rowB w b t n (swTo s x y k)) (hv : byt s k = sw1 x y (byt s k)) : rowB w b t n (swTo s x y (k + 1)) :=
  h.congr fun i _ => by
    unfold swTo
    by_cases e : i = k
    · subst e; simp [← hv]
    · by_cases h1 : i < k
      · rw [if_pos h1, if_pos (by omega)]
      · rw [if_neg h1, if_neg (by omega)]
theorem sw_cell {w : World} {b t n : Nat} {s : ByteArray} {x y : UInt8} {k : Nat} (h : rowB w b t n (swTo s x y k)) (hk : k < n) (hs : k < s.size) : w.cell? ⟨b, k, none⟩ = some (.int .u8 s[k].toNat) := by
  rw [h.cell hk, ← byt_at hs]; simp [swTo]
theorem convRow {w : World} {b t n cap : Nat} {g : Nat → UInt8} (h : rowB w b t n (fun i => .int .u8 (g i).toNat)) :
    (convert 30 9 (.slice (some ⟨b, 0, none⟩) n cap)).run Try.prog w = .ok (.string (mk n g)) w := by
  have hr := run_convert_bytes_back (P := Try.prog) w 30 9 5 ⟨b, 0, none⟩ cap ((List.range n).map g) Try.underlying30 Try.underlying5 Try.underlying9 (fun j hj => by
    have hj' : j < n := by simpa using hj
    have := h.cell hj'
    have e : (⟨b, 0, none⟩ : Addr).add j = ⟨b, j, none⟩ := by unfold Addr.add; split <;> simp_all
    rw [e]
    simpa using this)
  simpa [mk] using hr
theorem convBack (w : World) (s : ByteArray) :
    (convert 9 30 (.string s)).run Try.prog w = .ok (.slice (some ⟨w.heap.size, 0, none⟩) s.size (grownCap w s.size 0 5))
      (w.drew.alloc (.cells (bytesRow s (grownCap w s.size 0 5)) 5 ((bytesRow s (grownCap w s.size 0 5)).size, (bytesRow s (grownCap w s.size 0 5)).size + 1))) :=
  run_bytes_of_string w 9 30 5 s Try.underlying9 Try.underlying30 Try.underlying5
theorem wp_world {P : Program} {c : Code} {Q : Exit → Act → World → Prop} {a : Act} {w : World} (R : World → Prop) (h : R w) (k : ∀ W, R W → c.wp P Q a W) : c.wp P Q a w := k w h
theorem var_one {v : ByteArray} (h : 0 ≤ varNo v) : ∃ c, v = ⟨#[c]⟩ := by
  by_cases g : v.size = 1
  · exact one_byte g
  · rw [var_size g] at h; omega
def strV : Option ByteArray → Value
  | none => .tuple #[.string ⟨#[]⟩, .bool false]
  | some v => .tuple #[.string v, .bool true]
def swapV (p v u : ByteArray) : Option ByteArray := if okS false 2 200 p && (decide (0 ≤ varNo v) && decide (0 ≤ varNo u)) then some (swapped p (byt v 0) (byt u 0)) else none
theorem byt_one (c : UInt8) : byt ⟨#[c]⟩ 0 = c := rfl
end Go.Proofs.Ytnhdnfanjefglaa.Sp
