/- Contracts and law: SwapProgram. -/
import Derived.Test.YtfmmpahafliklaaSw
import Derived.Test.YtfmmpahafliklaaRow
import Derived.Test.YtfmmpahafliklaaVar
namespace Go.Proofs.Ytfmmpahafliklaa.Sp
open Go.RowKit Go.Deep Go.Proofs.Ytfmmpahafliklaa.Pl Go.Proofs.Ytfmmpahafliklaa.Bi Go.Proofs.Ytfmmpahafliklaa.Fi Go.Proofs.Ytfmmpahafliklaa.Ed Go.Proofs.Ytfmmpahafliklaa.Ps Go.Proofs.Ytfmmpahafliklaa.Sw Go.Proofs.Ytfmmpahafliklaa.Ro Go.Proofs.Ytfmmpahafliklaa.Va
set_option linter.unusedVariables false

/-- A row of bytes out of a text: its room may be larger, and the mark lies behind it. -/
def rowB (w : World) (b : Nat) (t : TypeId) (n : Nat) (f : Nat → Value) : Prop :=
  ∃ (c : Array Value), w.heap[b]? = some (.cells c t (c.size, c.size + 1)) ∧ n ≤ c.size ∧ ∀ i, i < n → c[i]? = some (f i)
theorem rowB.cell {w : World} {b : Nat} {t : TypeId} {n : Nat} {f : Nat → Value} (h : rowB w b t n f) {i : Nat} (hi : i < n) : w.cell? ⟨b, i, none⟩ = some (f i) := by
  obtain ⟨c, hb, _, hc⟩ := h
  simp [World.cell?, hb, hc i hi]
theorem rowB.frozen {w : World} {b : Nat} {t : TypeId} {n : Nat} {f : Nat → Value} (h : rowB w b t n f) {i : Nat} (hi : i < n) : w.frozen? ⟨b, i, none⟩ = false := by
  obtain ⟨c, hb, hn, _⟩ := h
  simp [World.frozen?, hb]
  omega
theorem rowB.congr {w : World} {b : Nat} {t : TypeId} {n : Nat} {f g : Nat → Value} (h : rowB w b t n f) (e : ∀ i, i < n → f i = g i) : rowB w b t n g := by
  obtain ⟨c, hb, hn, hc⟩ := h
  exact ⟨c, hb, hn, fun i hi => by rw [hc i hi, e i hi]⟩
theorem rowB.set {w : World} {b : Nat} {t : TypeId} {n : Nat} {f : Nat → Value} (h : rowB w b t n f) (i : Nat) (v : Value) : rowB (w.setCell ⟨b, i, none⟩ v) b t n (fun j => if j = i then v else f j) := by
  obtain ⟨c, hb, hn, hc⟩ := h
  refine ⟨c.setIfInBounds i v, ?_, by simpa using hn, fun j hj => ?_⟩
  · simp [World.setCell, Array.getElem?_modify, hb]
  · rw [Array.getElem?_setIfInBounds]
    by_cases e : j = i
    · subst e
      simp only [if_true]
      rw [if_pos (by omega)]
    · rw [if_neg (fun h => e h.symm)]
      show c[j]? = some (if j = i then v else f j)
      rw [if_neg e]
      exact hc j hj
/-- The i-th byte. -/
def byt (s : ByteArray) (i : Nat) : UInt8 := s.data.toList.getD i 0
theorem byt_at {s : ByteArray} {i : Nat} (h : i < s.size) : byt s i = s[i] := by
  unfold byt
  rw [List.getD_eq_getElem?_getD, List.getElem?_eq_getElem (by simpa using h)]
  rfl
theorem rowB_drewN {w : World} {b : Nat} {t : TypeId} {n : Nat} {f : Nat → Value} (h : rowB w b t n f) (m : Nat) : rowB (w.drewN m) b t n f := by
  obtain ⟨c, hb, r⟩ := h
  exact ⟨c, hb, r⟩
theorem rowB_made (w : World) (s : ByteArray) (t : TypeId) (m : Nat) :
    rowB (w.alloc (.cells (bytesRow s m) t ((bytesRow s m).size, (bytesRow s m).size + 1))) w.heap.size t s.size (fun i => .int .u8 (byt s i).toNat) := by
  refine ⟨bytesRow s m, blk_alloc_new _ _, ?_, fun i hi => ?_⟩
  · unfold bytesRow
    rw [Array.size_append, Array.size_map]
    exact Nat.le_add_right _ _
  · show _ = some (Value.int .u8 (byt s i).toNat)
    rw [byt_at hi]
    have hi' : i < s.data.size := hi
    unfold bytesRow
    rw [Array.getElem?_append_left (by simpa using hi')]
    simp only [Array.getElem?_map, Array.getElem?_eq_getElem hi', Option.map_some]
    rfl
def sw1 (x y b : UInt8) : UInt8 := if b = x then y else if b = y then x else b
def swapped (s : ByteArray) (x y : UInt8) : ByteArray := mk s.size fun i => sw1 x y (byt s i)
/-- What stands in the row behind k rounds. -/
def swTo (s : ByteArray) (x y : UInt8) (k : Nat) (j : Nat) : Value := if j < k then .int .u8 (sw1 x y (byt s j)).toNat else .int .u8 (byt s j).toNat
theorem sw_zero {w : World} {b t n : Nat} {s : ByteArray} {x y : UInt8} (h : rowB w b t n (fun i => .int .u8 (byt s i).toNat)) : rowB w b t n (swTo s x y 0) :=
  h.congr fun i _ => by simp [swTo]
theorem sw_all {w : World} {b t n : Nat} {s : ByteArray} {x y : UInt8} (h : rowB w b t n (swTo s x y n)) : rowB w b t n (fun i => .int .u8 (sw1 x y (byt s i)).toNat) :=
  h.congr fun i hi => by simp [swTo, hi]
theorem sw_set {w : World} {b t n : Nat} {s : ByteArray} {x y : UInt8} {k : Nat} (h : rowB w b t n (swTo s x y k)) {v : Value} (hv : v = .int .u8 (sw1 x y (byt s k)).toNat) : rowB (w.setCell ⟨b, k, none⟩ v) b t n (swTo s x y (k + 1)) :=
  (h.set k v).congr fun i _ => by
    subst hv
    unfold swTo
    by_cases e : i = k
    · subst e; simp
    · simp only [if_neg e]
      by_cases h1 : i < k
      · rw [if_pos h1, if_pos (by omega)]
      · rw [if_neg h1, if_neg (by omega)]
theorem sw_two {w : World} {b t n : Nat} {s : ByteArray} {x y : UInt8} {k : Nat} (h : rowB w b t n (swTo s x y k)) {u v : Value} (hv : v = .int .u8 (sw1 x y (byt s k)).toNat) : rowB ((w.setCell ⟨b, k, none⟩ u).setCell ⟨b, k, none⟩ v) b t n (swTo s x y (k + 1)) :=
  ((h.set k u).set k v).congr fun i _ => by
    subst hv
    unfold swTo
    by_cases e : i = k
    · subst e; simp
    · simp only [if_neg e]
      by_cases h1 : i < k
      · rw [if_pos h1, if_pos (by omega)]
      · rw [if_neg h1, if_neg (by omega)]
theorem sw_fin {w : World} {b t n : Nat} {s : ByteArray} {x y : UInt8} {k : Nat} {u : Value} (h : rowB w b t n (fun j => if j = k then u else swTo s x y k j)) (hv : u = .int .u8 (sw1 x y (byt s k)).toNat) : rowB w b t n (swTo s x y (k + 1)) :=
  h.congr fun i _ => by
    subst hv
    unfold swTo
    by_cases e : i = k
    · subst e; simp
    · simp only [if_neg e]
      by_cases h1 : i < k
      · rw [if_pos h1, if_pos (by omega)]
      · rw [if_neg h1, if_neg (by omega)]
theorem sw_again {w : World} {b t n : Nat} {s : ByteArray} {x y : UInt8} {k : Nat} {u v : Value} (h : rowB w b t n (fun j => if j = k then u else swTo s x y k j)) (hv : v = .int .u8 (sw1 x y (byt s k)).toNat) : rowB (w.setCell ⟨b, k, none⟩ v) b t n (swTo s x y (k + 1)) :=
  (h.set k v).congr fun i _ => by
    subst hv
    unfold swTo
    by_cases e : i = k
    · subst e; simp
    · simp only [if_neg e]
      by_cases h1 : i < k
      · rw [if_pos h1, if_pos (by omega)]
      · rw [if_neg h1, if_neg (by omega)]
theorem sw_keep {w : World} {b t n : Nat} {s : ByteArray} {x y : UInt8} {k : Nat} (h : rowB w b t n (swTo s x y k)) (hv : byt s k = sw1 x y (byt s k)) : rowB w b t n (swTo s x y (k + 1)) :=
  h.congr fun i _ => by
    unfold swTo
    by_cases e : i = k
    · subst e; simp [← hv]
    · by_cases h1 : i < k
      · rw [if_pos h1, if_pos (by omega)]
      · rw [if_neg h1, if_neg (by omega)]
theorem sw_cell {w : World} {b t n : Nat} {s : ByteArray} {x y : UInt8} {k : Nat} (h : rowB w b t n (swTo s x y k)) (hk : k < n) (hs : k < s.size) : w.cell? ⟨b, k, none⟩ = some (.int .u8 s[k].toNat) := by
  rw [h.cell hk, ← byt_at hs]; simp [swTo]
theorem convRow {w : World} {b t n cap : Nat} {g : Nat → UInt8} (h : rowB w b t n (fun i => .int .u8 (g i).toNat)) :
    (convert 55 9 (.slice (some ⟨b, 0, none⟩) n cap)).run Try.prog w = .ok (.string (mk n g)) w := by
  have hr := run_convert_bytes_back (P := Try.prog) w 55 9 5 ⟨b, 0, none⟩ cap ((List.range n).map g) Try.underlying55 Try.underlying5 Try.underlying9 (fun j hj => by
    have hj' : j < n := by simpa using hj
    have := h.cell hj'
    have e : (⟨b, 0, none⟩ : Addr).add j = ⟨b, j, none⟩ := by unfold Addr.add; split <;> simp_all
    rw [e]
    simpa using this)
  simpa [mk] using hr
theorem convBack (w : World) (s : ByteArray) :
    (convert 9 55 (.string s)).run Try.prog w = .ok (.slice (some ⟨w.heap.size, 0, none⟩) s.size (grownCap w s.size 0 5))
      (w.drew.alloc (.cells (bytesRow s (grownCap w s.size 0 5)) 5 ((bytesRow s (grownCap w s.size 0 5)).size, (bytesRow s (grownCap w s.size 0 5)).size + 1))) :=
  run_bytes_of_string w 9 55 5 s Try.underlying9 Try.underlying55 Try.underlying5
theorem wp_world {P : Program} {c : Code} {Q : Exit → Act → World → Prop} {a : Act} {w : World} (R : World → Prop) (h : R w) (k : ∀ W, R W → c.wp P Q a W) : c.wp P Q a w := k w h
theorem var_one {v : ByteArray} (h : 0 ≤ varNo v) : ∃ c, v = ⟨#[c]⟩ := by
  by_cases g : v.size = 1
  · exact one_byte g
  · rw [var_size g] at h; omega
def strV : Option ByteArray → Value
  | none => .tuple #[.string ⟨#[]⟩, .bool false]
  | some v => .tuple #[.string v, .bool true]
def swapV (p v u : ByteArray) : Option ByteArray := if okS false 2 200 p && (decide (0 ≤ varNo v) && decide (0 ≤ varNo u)) then some (swapped p (byt v 0) (byt u 0)) else none
theorem byt_one (c : UInt8) : byt ⟨#[c]⟩ 0 = c := rfl
set_option maxRecDepth 100000 in
set_option maxHeartbeats 4000000 in
theorem specSwap (p v u : ByteArray) (w : World) (hp : p.size ≤ 1048576) :
    Calls Try.prog 36 #[.string p, .string v, .string u] w fun e w' => e = .returned (strV (swapV p v u)) ∧ Below w.heap.size w w' := by
  have hvp := Lib.hid (fun w => specProgramValid p w hp)
  have hvv := Lib.hid (fun w => specVar v w)
  have hvu := Lib.hid (fun w => specVar u w)
  cases h1 : okS false 2 200 p with
  | false =>
    have H := Lib.hid (show swapV p v u = none by simp [swapV, h1])
    rw [h1] at hvp
    clear h1 hvv hvu
    go_enter Try.func36, Try.ntmps36
    go_wp2_with fail
    refine (hvp.out _).mono ?_
    rintro e w1 ⟨rfl, hb1⟩
    go_wp2_with fail
    exact bodyPost_ret (v := .tuple #[.string ⟨#[]⟩, .bool false]) (by simp [results, Try.results36, go_sem]) rfl ⟨by rw [H.out]; rfl, hb1⟩
  | true =>
    rw [h1] at hvp
    by_cases gv : 0 ≤ varNo v
    · by_cases gu : 0 ≤ varNo u
      · obtain ⟨x, rfl⟩ := var_one gv
        obtain ⟨y, rfl⟩ := var_one gu
        have hsp := (okS_is h1).1
        have z1 : (p.size : Int) ≤ 200 := by omega
        have H := Lib.hid (show swapV p ⟨#[x]⟩ ⟨#[y]⟩ = some (swapped p x y) by simp [swapV, h1, gv, gu, byt_one])
        obtain ⟨nv, hnv⟩ : ∃ n, varNo ⟨#[x]⟩ = n := ⟨_, rfl⟩
        obtain ⟨nu, hnu⟩ : ∃ n, varNo ⟨#[y]⟩ = n := ⟨_, rfl⟩
        rw [hnv] at hvv gv
        rw [hnu] at hvu gu
        have dv : decide (0 ≤ nv) = true := by simp [gv]
        have du : decide (0 ≤ nu) = true := by simp [gu]
        have hcv := convBack
        clear h1 hnv hnu
        go_enter Try.func36, Try.ntmps36
        go_wp2_with fail
        refine (hvp.out _).mono ?_
        rintro e w1 ⟨rfl, hb1⟩
        go_wp2_with fail
        refine (hvv.out _).mono ?_
        rintro e w2 ⟨rfl, rfl⟩
        go_wp2_with fail
        refine (hvu.out _).mono ?_
        rintro e w3 ⟨rfl, rfl⟩
        go_wp2_with fail
        go_loopw [9] (fun i wr => ∃ k : Nat, k ≤ p.size ∧ i = .int .i64 k ∧ rowB wr w1.heap.size 5 p.size (swTo p x y k) ∧ Below w.heap.size w wr) (fun i _ => p.size - (intOf i).toNat)
        case atStart => exact ⟨0, Nat.zero_le _, rfl, sw_zero (rowB_made _ _ _ _), (hb1.drew).alloc hb1.size _⟩
        case round =>
          obtain ⟨k, hk, rfl, hrow, hb⟩ := hrel
          by_cases hlt : k < p.size
          · have hlt' : (k : Int) < (p.size : Int) := by omega
            have hle := hb1.size
            have HROW := Lib.hid hrow
            have hfz := hrow.frozen hlt
            have hcell := sw_cell hrow hlt hlt
            by_cases hx : p[k] = x
            · have gx : ((p[k].toNat : Int) == (((ByteArray.mk #[x])[0]'(Nat.zero_lt_one : 0 < 1)).toNat : Int)) = true := by rw [hx]; exact beq_self_eq_true (x.toNat : Int)
              by_cases hy : p[k] = y
              · have gy : ((p[k].toNat : Int) == (((ByteArray.mk #[y])[0]'(Nat.zero_lt_one : 0 < 1)).toNat : Int)) = true := by rw [hy]; exact beq_self_eq_true (y.toNat : Int)
                have HV := Lib.hid (show (.int .u8 (x.toNat : Int) : Value) = .int .u8 (sw1 x y (byt p k)).toNat by rw [byt_at hlt, sw1, if_pos hx, ← hy, hx])
                clear hx hy
                clear hrow
                go_wp2_with fail
                go_quiet (fail)
                go_wp2_with fail
                refine wp_world (fun W => rowB W w1.heap.size 5 p.size (fun j => if j = k then .int .u8 y.toNat else swTo p x y k j) ∧ Below w.heap.size w W) ⟨(rowB_drewN HROW.out _).set k _, (below_drewN hb _).setCell (p := ⟨w1.heap.size, k, none⟩) hle _⟩ ?_
                rintro W2 ⟨r2, hb2⟩
                have hfz3 := r2.frozen hlt
                have hc3 := r2.cell hlt
                simp only [if_true] at hc3
                go_quiet (fail)
                go_wp2_with fail
                go_roundw
                case rel => exact ⟨k + 1, by omega, by go_num, sw_again (rowB_drewN r2 _) HV.out, (below_drewN hb2 _).setCell (p := ⟨w1.heap.size, k, none⟩) hle _⟩
                case measure => simp [intOf]; omega
              · have gy : ((p[k].toNat : Int) == (((ByteArray.mk #[y])[0]'(Nat.zero_lt_one : 0 < 1)).toNat : Int)) = false := by
                  show ((p[k].toNat : Int) == (y.toNat : Int)) = false
                  rw [beq_eq_false_iff_ne]; intro e; exact hy (UInt8.toNat_inj.1 (by omega))
                have HV := Lib.hid (show (.int .u8 (y.toNat : Int) : Value) = .int .u8 (sw1 x y (byt p k)).toNat by rw [byt_at hlt, sw1, if_pos hx])
                clear hx hy
                clear hrow
                go_wp2_with fail
                go_quiet (fail)
                go_wp2_with fail
                refine wp_world (fun W => rowB W w1.heap.size 5 p.size (fun j => if j = k then .int .u8 y.toNat else swTo p x y k j) ∧ Below w.heap.size w W) ⟨(rowB_drewN HROW.out _).set k _, (below_drewN hb _).setCell (p := ⟨w1.heap.size, k, none⟩) hle _⟩ ?_
                rintro W2 ⟨r2, hb2⟩
                go_quiet (fail)
                go_wp2_with fail
                go_roundw
                case rel => exact ⟨k + 1, by omega, by go_num, sw_fin (rowB_drewN r2 _) HV.out, below_drewN hb2 _⟩
                case measure => simp [intOf]; omega
            · have gx : ((p[k].toNat : Int) == (((ByteArray.mk #[x])[0]'(Nat.zero_lt_one : 0 < 1)).toNat : Int)) = false := by
                show ((p[k].toNat : Int) == (x.toNat : Int)) = false
                rw [beq_eq_false_iff_ne]; intro e; exact hx (UInt8.toNat_inj.1 (by omega))
              by_cases hy : p[k] = y
              · have gy : ((p[k].toNat : Int) == (((ByteArray.mk #[y])[0]'(Nat.zero_lt_one : 0 < 1)).toNat : Int)) = true := by rw [hy]; exact beq_self_eq_true (y.toNat : Int)
                have HV := Lib.hid (show (.int .u8 (x.toNat : Int) : Value) = .int .u8 (sw1 x y (byt p k)).toNat by rw [byt_at hlt, sw1, if_neg hx, if_pos hy])
                clear hx hy
                clear hrow
                go_wp2_with fail
                go_quiet (fail)
                go_wp2_with fail
                refine wp_world (fun W => rowB W w1.heap.size 5 p.size (swTo p x y k) ∧ Below w.heap.size w W) ⟨rowB_drewN HROW.out _, below_drewN hb _⟩ ?_
                rintro W2 ⟨r2, hb2⟩
                have hfz3 := r2.frozen hlt
                have hc3 := sw_cell r2 hlt hlt
                go_quiet (fail)
                go_wp2_with fail
                go_roundw
                case rel => exact ⟨k + 1, by omega, by go_num, sw_set (rowB_drewN r2 _) HV.out, (below_drewN hb2 _).setCell (p := ⟨w1.heap.size, k, none⟩) hle _⟩
                case measure => simp [intOf]; omega
              · have gy : ((p[k].toNat : Int) == (((ByteArray.mk #[y])[0]'(Nat.zero_lt_one : 0 < 1)).toNat : Int)) = false := by
                  show ((p[k].toNat : Int) == (y.toNat : Int)) = false
                  rw [beq_eq_false_iff_ne]; intro e; exact hy (UInt8.toNat_inj.1 (by omega))
                have HV := Lib.hid (show byt p k = sw1 x y (byt p k) by rw [byt_at hlt, sw1, if_neg hx, if_neg hy])
                clear hx hy
                clear hrow
                go_wp2_with fail
                go_quiet (fail)
                go_wp2_with fail
                refine wp_world (fun W => rowB W w1.heap.size 5 p.size (swTo p x y k) ∧ Below w.heap.size w W) ⟨rowB_drewN HROW.out _, below_drewN hb _⟩ ?_
                rintro W2 ⟨r2, hb2⟩
                have hfz3 := r2.frozen hlt
                have hc3 := sw_cell r2 hlt hlt
                go_quiet (fail)
                go_wp2_with fail
                go_roundw
                case rel => exact ⟨k + 1, by omega, by go_num, sw_keep (rowB_drewN r2 _) HV.out, below_drewN hb2 _⟩
                case measure => simp [intOf]; omega
          · obtain rfl : k = p.size := by omega
            have hcv2 := convRow (cap := grownCap w1 p.size 0 5) (sw_all hrow)
            go_wp2_with fail
            exact bodyPost_ret (v := .tuple #[.string (swapped p x y), .bool true]) (by simp [results, Try.results36, go_sem]; rfl) rfl ⟨by rw [H.out]; rfl, hb⟩
      · have H := Lib.hid (show swapV p v u = none by simp [swapV, gu])
        obtain ⟨nv, hnv⟩ : ∃ n, varNo v = n := ⟨_, rfl⟩
        obtain ⟨nu, hnu⟩ : ∃ n, varNo u = n := ⟨_, rfl⟩
        rw [hnv] at hvv gv
        rw [hnu] at hvu gu
        have dv : decide (0 ≤ nv) = true := by simp [gv]
        have du : decide (0 ≤ nu) = false := by simp [gu]
        have gu' : nu < 0 := by omega
        clear h1 hnv hnu
        go_enter Try.func36, Try.ntmps36
        go_wp2_with fail
        refine (hvp.out _).mono ?_
        rintro e w1 ⟨rfl, hb1⟩
        go_wp2_with fail
        refine (hvv.out _).mono ?_
        rintro e w2 ⟨rfl, rfl⟩
        go_wp2_with fail
        refine (hvu.out _).mono ?_
        rintro e w3 ⟨rfl, rfl⟩
        go_wp2_with fail
        exact bodyPost_ret (v := .tuple #[.string ⟨#[]⟩, .bool false]) (by simp [results, Try.results36, go_sem]) rfl ⟨by rw [H.out]; rfl, hb1⟩
    · have H := Lib.hid (show swapV p v u = none by simp [swapV, gv])
      obtain ⟨nv, hnv⟩ : ∃ n, varNo v = n := ⟨_, rfl⟩
      rw [hnv] at hvv gv
      have dv : decide (0 ≤ nv) = false := by simp [gv]
      have gv' : nv < 0 := by omega
      clear h1 hnv hvu
      go_enter Try.func36, Try.ntmps36
      go_wp2_with fail
      refine (hvp.out _).mono ?_
      rintro e w1 ⟨rfl, hb1⟩
      go_wp2_with fail
      refine (hvv.out _).mono ?_
      rintro e w2 ⟨rfl, rfl⟩
      go_wp2_with fail
      exact bodyPost_ret (v := .tuple #[.string ⟨#[]⟩, .bool false]) (by simp [results, Try.results36, go_sem]) rfl ⟨by rw [H.out]; rfl, hb1⟩
set_option maxRecDepth 100000 in
set_option maxHeartbeats 4000000 in
theorem implSwap (p v u : ByteArray) (w : World) (hp : p.size ≤ 1048576) :
    Calls Try.prog 37 #[.string p, .string v, .string u] w fun e w' => e = .returned (strV (swapV p v u)) ∧ Below w.heap.size w w' := by
  have hvp := Lib.hid (fun w => implProgramValid p w hp)
  have hvv := Lib.hid (fun w => implIsVar v w)
  have hvu := Lib.hid (fun w => implIsVar u w)
  cases h1 : okS false 2 200 p with
  | false =>
    have H := Lib.hid (show swapV p v u = none by simp [swapV, h1])
    rw [h1] at hvp
    clear h1 hvv hvu
    go_enter Try.func37, Try.ntmps37
    go_wp2_with fail
    refine (hvp.out _).mono ?_
    rintro e w1 ⟨rfl, hb1⟩
    go_wp2_with fail
    exact bodyPost_ret (v := .tuple #[.string ⟨#[]⟩, .bool false]) (by simp [results, Try.results37, go_sem]) rfl ⟨by rw [H.out]; rfl, hb1⟩
  | true =>
    rw [h1] at hvp
    by_cases gv : 0 ≤ varNo v
    · by_cases gu : 0 ≤ varNo u
      · obtain ⟨x, rfl⟩ := var_one gv
        obtain ⟨y, rfl⟩ := var_one gu
        have hsp := (okS_is h1).1
        have z1 : (p.size : Int) ≤ 200 := by omega
        have H := Lib.hid (show swapV p ⟨#[x]⟩ ⟨#[y]⟩ = some (swapped p x y) by simp [swapV, h1, gv, gu, byt_one])
        obtain ⟨nv, hnv⟩ : ∃ n, varNo ⟨#[x]⟩ = n := ⟨_, rfl⟩
        obtain ⟨nu, hnu⟩ : ∃ n, varNo ⟨#[y]⟩ = n := ⟨_, rfl⟩
        rw [hnv] at hvv gv
        rw [hnu] at hvu gu
        have dv : decide (0 ≤ nv) = true := by simp [gv]
        have du : decide (0 ≤ nu) = true := by simp [gu]
        have hcv := convBack
        clear h1 hnv hnu
        go_enter Try.func37, Try.ntmps37
        go_wp2_with fail
        refine (hvp.out _).mono ?_
        rintro e w1 ⟨rfl, hb1⟩
        go_wp2_with fail
        refine (hvv.out _).mono ?_
        rintro e w2 ⟨rfl, rfl⟩
        go_wp2_with fail
        refine (hvu.out _).mono ?_
        rintro e w3 ⟨rfl, rfl⟩
        go_wp2_with fail
        go_loopw [9, 10, 28] (fun u9 u10 i wr => ∃ k : Nat, k ≤ p.size ∧ i = .int .i64 k ∧ rowB wr w1.heap.size 5 p.size (swTo p x y k) ∧ Below w.heap.size w wr) (fun _ _ i _ => p.size - (intOf i).toNat)
        case atStart => exact ⟨0, Nat.zero_le _, rfl, sw_zero (rowB_made _ _ _ _), (hb1.drew).alloc hb1.size _⟩
        case round =>
          obtain ⟨k, hk, rfl, hrow, hb⟩ := hrel
          by_cases hlt : k < p.size
          · have hlt' : (k : Int) < (p.size : Int) := by omega
            have hcell := sw_cell hrow hlt hlt
            have hfz := hrow.frozen hlt
            have hle := hb1.size
            have HROW := Lib.hid hrow
            by_cases hx : p[k] = x
            · have gx : ((p[k].toNat : Int) == (((ByteArray.mk #[x])[0]'(Nat.zero_lt_one : 0 < 1)).toNat : Int)) = true := by rw [hx]; exact beq_self_eq_true (x.toNat : Int)
              have HV := Lib.hid (show (.int .u8 (y.toNat : Int) : Value) = .int .u8 (sw1 x y (byt p k)).toNat by rw [byt_at hlt, sw1, if_pos hx])
              clear hx hrow
              go_wp2_with fail
              go_roundw
              case rel => exact ⟨k + 1, by omega, by go_num, sw_set HROW.out HV.out, hb.setCell (p := ⟨w1.heap.size, k, none⟩) hle _⟩
              case measure => simp [intOf]; omega
            · have gx : ((p[k].toNat : Int) == (((ByteArray.mk #[x])[0]'(Nat.zero_lt_one : 0 < 1)).toNat : Int)) = false := by
                show ((p[k].toNat : Int) == (x.toNat : Int)) = false
                rw [beq_eq_false_iff_ne]; intro e; exact hx (UInt8.toNat_inj.1 (by omega))
              by_cases hy : p[k] = y
              · have gy : ((p[k].toNat : Int) == (((ByteArray.mk #[y])[0]'(Nat.zero_lt_one : 0 < 1)).toNat : Int)) = true := by rw [hy]; exact beq_self_eq_true (y.toNat : Int)
                have HV := Lib.hid (show (.int .u8 (x.toNat : Int) : Value) = .int .u8 (sw1 x y (byt p k)).toNat by rw [byt_at hlt, sw1, if_neg hx, if_pos hy])
                clear hx hy hrow
                go_wp2_with fail
                go_roundw
                case rel => exact ⟨k + 1, by omega, by go_num, sw_set HROW.out HV.out, hb.setCell (p := ⟨w1.heap.size, k, none⟩) hle _⟩
                case measure => simp [intOf]; omega
              · have gy : ((p[k].toNat : Int) == (((ByteArray.mk #[y])[0]'(Nat.zero_lt_one : 0 < 1)).toNat : Int)) = false := by
                  show ((p[k].toNat : Int) == (y.toNat : Int)) = false
                  rw [beq_eq_false_iff_ne]; intro e; exact hy (UInt8.toNat_inj.1 (by omega))
                have HV := Lib.hid (show byt p k = sw1 x y (byt p k) by rw [byt_at hlt, sw1, if_neg hx, if_neg hy])
                clear hx hy hrow
                go_wp2_with fail
                go_roundw
                case rel => exact ⟨k + 1, by omega, by go_num, sw_keep HROW.out HV.out, hb⟩
                case measure => simp [intOf]; omega
          · obtain rfl : k = p.size := by omega
            have hcv2 := convRow (cap := grownCap w1 p.size 0 5) (sw_all hrow)
            go_wp2_with fail
            exact bodyPost_ret (v := .tuple #[.string (swapped p x y), .bool true]) (by simp [results, Try.results37, go_sem]; rfl) rfl ⟨by rw [H.out]; rfl, hb⟩
      · have H := Lib.hid (show swapV p v u = none by simp [swapV, gu])
        obtain ⟨nv, hnv⟩ : ∃ n, varNo v = n := ⟨_, rfl⟩
        obtain ⟨nu, hnu⟩ : ∃ n, varNo u = n := ⟨_, rfl⟩
        rw [hnv] at hvv gv
        rw [hnu] at hvu gu
        have dv : decide (0 ≤ nv) = true := by simp [gv]
        have du : decide (0 ≤ nu) = false := by simp [gu]
        have gu' : nu < 0 := by omega
        clear h1 hnv hnu
        go_enter Try.func37, Try.ntmps37
        go_wp2_with fail
        refine (hvp.out _).mono ?_
        rintro e w1 ⟨rfl, hb1⟩
        go_wp2_with fail
        refine (hvv.out _).mono ?_
        rintro e w2 ⟨rfl, rfl⟩
        go_wp2_with fail
        refine (hvu.out _).mono ?_
        rintro e w3 ⟨rfl, rfl⟩
        go_wp2_with fail
        exact bodyPost_ret (v := .tuple #[.string ⟨#[]⟩, .bool false]) (by simp [results, Try.results37, go_sem]) rfl ⟨by rw [H.out]; rfl, hb1⟩
    · have H := Lib.hid (show swapV p v u = none by simp [swapV, gv])
      obtain ⟨nv, hnv⟩ : ∃ n, varNo v = n := ⟨_, rfl⟩
      rw [hnv] at hvv gv
      have dv : decide (0 ≤ nv) = false := by simp [gv]
      have gv' : nv < 0 := by omega
      clear h1 hnv hvu
      go_enter Try.func37, Try.ntmps37
      go_wp2_with fail
      refine (hvp.out _).mono ?_
      rintro e w1 ⟨rfl, hb1⟩
      go_wp2_with fail
      refine (hvv.out _).mono ?_
      rintro e w2 ⟨rfl, rfl⟩
      go_wp2_with fail
      exact bodyPost_ret (v := .tuple #[.string ⟨#[]⟩, .bool false]) (by simp [results, Try.results37, go_sem]) rfl ⟨by rw [H.out]; rfl, hb1⟩
set_option maxRecDepth 100000 in
set_option maxHeartbeats 2000000 in
theorem lawSwapProgram (p v u : ByteArray) (w : World) (hp : p.size ≤ maxLen) (hv : v.size ≤ maxLen) (hu : u.size ≤ maxLen) : Calls Try.prog 13 #[.string p, .string v, .string u] w fun e w' => e = .returned (.bool true) ∧ Below w.heap.size w w' := by
  by_cases hb1 : p.size ≤ 1048576
  · have h1 : (p.size : Int) ≤ 1048576 := by omega
    by_cases hb2 : v.size ≤ 1048576
    · have h2 : (v.size : Int) ≤ 1048576 := by omega
      by_cases hb3 : u.size ≤ 1048576
      · have h3 : (u.size : Int) ≤ 1048576 := by omega
        have HA := Lib.hid (fun w => specSwap p v u w hb1)
        have HB := Lib.hid (fun w => implSwap p v u w hb1)
        cases h : swapV p v u with
        | none =>
          rw [h] at HA HB
          simp only [strV] at HA HB
          clear h
          go_enter Try.func13, Try.ntmps13
          go_wp2_with (first
            | (go_at_call 36; refine (HA.out _).mono ?_; rintro e w1 ⟨rfl, hw1⟩)
            | (go_at_call 37; refine (HB.out _).mono ?_; rintro e w2 ⟨rfl, hw2⟩))
          go_ret
          exact ⟨rfl, grew hw1 hw2⟩
        | some r =>
          rw [h] at HA HB
          simp only [strV] at HA HB
          clear h
          go_enter Try.func13, Try.ntmps13
          go_wp2_with (first
            | (go_at_call 36; refine (HA.out _).mono ?_; rintro e w1 ⟨rfl, hw1⟩)
            | (go_at_call 37; refine (HB.out _).mono ?_; rintro e w2 ⟨rfl, hw2⟩))
          go_ret
          exact ⟨rfl, grew hw1 hw2⟩
      · have h3 : (1048576 : Int) < (u.size : Int) := by omega
        go_enter Try.func13, Try.ntmps13
        go_wp2_with fail
        go_ret
        exact ⟨rfl, Below.refl _ _⟩
    · have h2 : (1048576 : Int) < (v.size : Int) := by omega
      go_enter Try.func13, Try.ntmps13
      go_wp2_with fail
      go_ret
      exact ⟨rfl, Below.refl _ _⟩
  · have h1 : (1048576 : Int) < (p.size : Int) := by omega
    go_enter Try.func13, Try.ntmps13
    go_wp2_with fail
    go_ret
    exact ⟨rfl, Below.refl _ _⟩
end Go.Proofs.Ytfmmpahafliklaa.Sp
