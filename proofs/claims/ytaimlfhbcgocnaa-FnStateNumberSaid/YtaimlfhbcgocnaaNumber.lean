/- Contracts and law: the draws of a state (l14Rd), FnStateNumber. -/
import Derived.Test.YtaimlfhbcgocnaaText
import Derived.Deep.QuietTactic
import Derived.BigQuiet
import Derived.BigRegion
import Derived.Lib.QuietBelow
import Derived.Laws.BitsLemmas
import Derived.WalkSmall
namespace Go.Proofs.Ytaimlfhbcgocnaa
/-- A slice's row of numbers. -/
def IsRow (k : IntKind) (w : World) (a : Option Addr) (len cap : Nat) (zs : List Int) : Prop :=
  (a = none ∧ len = 0 ∧ cap = 0 ∧ zs = []) ∨ ∃ x, a = some x ∧ len ≤ cap ∧ cap ≤ maxLen ∧ zs.length = cap ∧ (∀ i, i < zs.length → w.cell? (x.add i) = some (.int k (zs.getD i 0))) ∧ ∀ n ∈ zs, (Lit.int k n).wf = true
namespace Nb
open Go.RowKit Go.Deep Go.Sort Go.Proofs.Ytaimlfhbcgocnaa.Ro Go.Proofs.Ytaimlfhbcgocnaa.Bi Go.Proofs.Ytaimlfhbcgocnaa.St Go.Proofs.Ytaimlfhbcgocnaa.Se Go.Proofs.Ytaimlfhbcgocnaa.Nu
set_option linter.unusedVariables false

/-- n bytes in blocks ahead of N. -/
def Code (N : Nat) (w : World) (v : Value) (n : Nat) : Prop :=
  (∃ (a : Option Addr) (cap : Nat), v = .slice a 0 cap ∧ n = 0) ∨ ∃ (a : Addr) (cap : Nat) (f : Nat → Int), v = .slice (some a) n cap ∧ n ≤ cap ∧ cap ≤ maxLen ∧ a.block < N ∧ (∀ i, i < n → w.cell? (a.add i) = some (.int .u8 (f i))) ∧ ∀ i, 0 ≤ f i ∧ f i ≤ 255
theorem xor_i64 {a b : Nat} (ha : a < 2 ^ 30) (hb : b < 2 ^ 30) : bits .xor .i64 (a : Int) (b : Int) = ((a ^^^ b : Nat) : Int) := by
  have h := Nat.xor_lt_two_pow ha hb
  have hb' : b % 2 ^ 64 = b := Nat.mod_eq_of_lt (by omega)
  have ha' : a % 2 ^ 64 = a := Nat.mod_eq_of_lt (by omega)
  simp only [bits, BitVec.ofInt_natCast, BitVec.toNat_xor, BitVec.toNat_ofNat, show IntKind.i64.bits = 64 from rfl, ha', hb']
  rw [IntKind.wrap_i64]
  omega
theorem add_block (a : Addr) (i : Nat) : (a.add i).block = a.block := by unfold Addr.add; split <;> rfl
theorem tmod_nat (a b : Nat) : (a : Int).tmod (b : Int) = ((a % b : Nat) : Int) := (Int.ofNat_tmod a b).symm
theorem tdiv_nat (a b : Nat) : (a : Int).tdiv (b : Int) = ((a / b : Nat) : Int) := (Int.ofNat_tdiv a b).symm
/-- A number of a range, and one byte more read. -/
def Drew (m : Int) (rb p : Nat) (w : World) (e : Ending) (w' : World) : Prop := ∃ x : Int, 0 ≤ x ∧ x < m ∧ e = .returned (.int .i64 x) ∧ ∃ q, w' = (w.setCell ⟨rb, 1, none⟩ (.int .i64 ((p : Int) + 1))).drewN q
set_option maxRecDepth 100000 in
set_option maxHeartbeats 4000000 in
theorem pick (N : Nat) (w0 : World) (v : Value) (n rb p : Nat) (m : Int) (w : World) (hC : Code N w0 v n) (hN : N ≤ rb) (hb : Below N w0 w) (c0 : w.cell? ⟨rb, 0, none⟩ = some v) (c1 : w.cell? ⟨rb, 1, none⟩ = some (.int .i64 (p : Int))) (fz : w.frozen? ⟨rb, 1, none⟩ = false) (hp : p ≤ 100) (hm : 1 ≤ m) (hm2 : m ≤ 1000) :
    Calls Try.prog 37 #[.pointer (some ⟨rb, 0, none⟩), .int .i64 m] w (Drew m rb p w) := by
  rcases hC with ⟨a, cap, rfl, rfl⟩ | ⟨a, cap, f, rfl, hn, hcap, hab, hcells, hbyte⟩
  · clear hb
    go_enter Try.func37, Try.ntmps37
    go_wp2_with fail
    go_ret
    exact ⟨0, by omega, by omega, rfl, 0, rfl⟩
  · unfold maxLen at hcap
    by_cases hn0 : n = 0
    · subst hn0
      clear hb hcells hbyte
      go_enter Try.func37, Try.ntmps37
      go_wp2_with fail
      go_ret
      exact ⟨0, by omega, by omega, rfl, 0, rfl⟩
    · have gn0 : ((n : Int) == 0) = false := by simp; omega
      have hcell : ∀ i, i < n → (w.setCell ⟨rb, 1, none⟩ (.int .i64 ((p : Int) + 1))).cell? (a.add i) = some (.int .u8 (f i)) := fun i hi => by
        rw [World.cell?_setCell_other _ _ _ _ (by intro e; have := congrArg Addr.block e; rw [add_block] at this; simp at this; omega), hb.cell (by rw [add_block]; exact hab)]
        exact hcells i hi
      have HM := Lib.hid hm
      by_cases hpn : p < n
      · have hc := hcell p hpn
        have hf := hbyte p
        obtain ⟨x, hx⟩ : ∃ x, f p = x := ⟨_, rfl⟩
        rw [hx] at hc hf
        have hpi : (p : Int) < (n : Int) := by omega
        have hm0 : (m == 0) = false := by simp; omega
        have HR := Lib.hid (show 0 ≤ x % m ∧ x % m < m from ⟨Int.emod_nonneg _ (by omega), Int.emod_lt_of_pos _ (by omega)⟩)
        clear hb hcells hbyte hcell hx hn0
        go_enter Try.func37, Try.ntmps37
        go_wp2_with fail
        go_ret
        exact ⟨x % m, HR.out.1, HR.out.2, rfl, 0, rfl⟩
      · have hpn' : (n : Int) ≤ (p : Int) := by omega
        have gpn : decide ((p : Int) < (n : Int)) = false := by simp; omega
        obtain ⟨j1, hj1⟩ : ∃ j, p % n = j := ⟨_, rfl⟩
        obtain ⟨j2, hj2⟩ : ∃ j, (p * 7 + 3) % n = j := ⟨_, rfl⟩
        obtain ⟨q, hq⟩ : ∃ j, p / n = j := ⟨_, rfl⟩
        have l1 : j1 < n := by rw [← hj1]; exact Nat.mod_lt _ (by omega)
        have l2 : j2 < n := by rw [← hj2]; exact Nat.mod_lt _ (by omega)
        have lq : q ≤ 100 := by rw [← hq]; exact Nat.le_trans (Nat.div_le_self _ _) hp
        have d1 := hcell j1 l1
        have d2 := hcell j2 l2
        have b1 := hbyte j1
        have b2 := hbyte j2
        obtain ⟨x1, hx1⟩ : ∃ x, f j1 = x := ⟨_, rfl⟩
        obtain ⟨x2, hx2⟩ : ∃ x, f j2 = x := ⟨_, rfl⟩
        rw [hx1] at d1 b1
        rw [hx2] at d2 b2
        have l1' : (j1 : Int) < (n : Int) := by omega
        have l2' : (j2 : Int) < (n : Int) := by omega
        have e1 : (p : Int).tmod (n : Int) = (j1 : Int) := by rw [tmod_nat, hj1]
        have e2 : ((p : Int) * 7 + 3).tmod (n : Int) = (j2 : Int) := by rw [show (p : Int) * 7 + 3 = ((p * 7 + 3 : Nat) : Int) by omega, tmod_nat, hj2]
        have e3 : (p : Int).tdiv (n : Int) = (q : Int) := by rw [tdiv_nat, hq]
        clear hb hcells hbyte hcell hx1 hx2 hn0 hj1 hj2 hq
        go_enter Try.func37, Try.ntmps37
        go_wp2_with fail
        go_quiet (fail)
        have hX0 : 0 ≤ x1 * 131 + x2 * 1117 + (p : Int) * 29 + (q : Int) * 53 ∧ x1 * 131 + x2 * 1117 + (p : Int) * 29 + (q : Int) * 53 < 1000000 := by omega
        clear e1 e2 e3 d1 d2
        generalize x1 * 131 + x2 * 1117 + (p : Int) * 29 + (q : Int) * 53 = X at hX0 ⊢
        obtain ⟨k, rfl⟩ := Int.eq_ofNat_of_zero_le hX0.1
        have hk : k < 1000000 := by omega
        have hx := xor_i64 (a := k) (b := k / 64) (by omega) (by omega)
        rw [show ((k / 64 : Nat) : Int) = (k : Int) / 64 by omega] at hx
        have hy : k ^^^ (k / 64) < 2 ^ 20 := Nat.xor_lt_two_pow (by omega) (by omega)
        generalize k ^^^ (k / 64) = y at hx hy
        have HR := Lib.hid (show 0 ≤ (y : Int) % m ∧ (y : Int) % m < m from ⟨Int.emod_nonneg _ (by omega), Int.emod_lt_of_pos _ (by omega)⟩)
        go_wp2_with fail
        go_ret
        exact ⟨(y : Int) % m, HR.out.1, HR.out.2, rfl, _, rfl⟩
/-! ### The reader's state -/
/-- The reader lies at rb; p bytes have been read. -/
def Rd (w0 : World) (v : Value) (rb p : Nat) (w : World) : Prop :=
  w.cell? ⟨rb, 0, none⟩ = some v ∧ w.cell? ⟨rb, 1, none⟩ = some (.int .i64 (p : Int)) ∧ w.frozen? ⟨rb, 1, none⟩ = false ∧ Below rb w0 w ∧ rb < w.heap.size
def Keep (rb : Nat) (w w' : World) : Prop := w'.heap.size = w.heap.size ∧ ∀ b, b ≠ rb → w'.heap[b]? = w.heap[b]?
theorem rd_below {w0 w w' : World} {v : Value} {rb p : Nat} (h : Rd w0 v rb p w) (hb : Below w.heap.size w w') : Rd w0 v rb p w' :=
  ⟨(hb.cell (p := ⟨rb, 0, none⟩) h.2.2.2.2).trans h.1, (hb.cell (p := ⟨rb, 1, none⟩) h.2.2.2.2).trans h.2.1, (hb.frozen (p := ⟨rb, 1, none⟩) h.2.2.2.2).trans h.2.2.1, h.2.2.2.1.trans (hb.mono (Nat.le_of_lt h.2.2.2.2)), Nat.lt_of_lt_of_le h.2.2.2.2 hb.size⟩
theorem rd_alloc {w0 w : World} {v : Value} {rb p : Nat} (h : Rd w0 v rb p w) (o : Obj) : Rd w0 v rb p (w.alloc o) := rd_below h ((Below.refl _ w).alloc (Nat.le_refl _) o)
theorem rd_set {w0 w : World} {v : Value} {rb p : Nat} (h : Rd w0 v rb p w) {b : Nat} (o : Nat) (u : Value) (hb : rb < b) : Rd w0 v rb p (w.setCell ⟨b, o, none⟩ u) :=
  ⟨by rw [World.cell?_setCell_other _ _ _ _ (by intro e; have := congrArg Addr.block e; simp at this; omega)]; exact h.1, by rw [World.cell?_setCell_other _ _ _ _ (by intro e; have := congrArg Addr.block e; simp at this; omega)]; exact h.2.1,
    by rw [World.frozen?_setCell]; exact h.2.2.1, h.2.2.2.1.setCell (p := ⟨b, o, none⟩) (Nat.le_of_lt hb) u, by have := h.2.2.2.2; simpa [World.setCell] using this⟩
theorem keep_cell {rb b o : Nat} {w w' : World} (h : Keep rb w w') (hb : b ≠ rb) : w'.cell? ⟨b, o, none⟩ = w.cell? ⟨b, o, none⟩ := World.cell?_of_block (a := ⟨b, o, none⟩) (h.2 b hb)
theorem keep_frozen {rb b o : Nat} {w w' : World} (h : Keep rb w w') (hb : b ≠ rb) : w'.frozen? ⟨b, o, none⟩ = w.frozen? ⟨b, o, none⟩ := World.frozen?_of_block (a := ⟨b, o, none⟩) (h.2 b hb)
theorem keep_trans {rb : Nat} {a b c : World} (h : Keep rb a b) (k : Keep rb b c) : Keep rb a c := ⟨k.1.trans h.1, fun x hx => (k.2 x hx).trans (h.2 x hx)⟩
/-- A number of a range, and one byte more read. -/
def Drew2 (w0 : World) (v : Value) (rb p : Nat) (m : Int) (w : World) (e : Ending) (w' : World) : Prop := ∃ x : Int, 0 ≤ x ∧ x < m ∧ e = .returned (.int .i64 x) ∧ Rd w0 v rb (p + 1) w' ∧ Keep rb w w'
theorem drewN_heap (w : World) (q : Nat) : (w.drewN q).heap = w.heap := by
  induction q with
  | zero => rfl
  | succ q ih => exact ih
theorem pick2 (w0 : World) (v : Value) (n rb p : Nat) (m : Int) (w : World) (hC : Code rb w0 v n) (h : Rd w0 v rb p w) (hp : p ≤ 100) (hm : 1 ≤ m) (hm2 : m ≤ 1000) :
    Calls Try.prog 37 #[.pointer (some ⟨rb, 0, none⟩), .int .i64 m] w (Drew2 w0 v rb p m w) :=
  (pick rb w0 v n rb p m w hC (Nat.le_refl _) h.2.2.2.1 h.1 h.2.1 h.2.2.1 hp hm hm2).mono fun e w' ⟨x, h0, h1, he, q, hw⟩ => by
    subst hw
    refine ⟨x, h0, h1, he, ⟨?_, ?_, ?_, ?_, ?_⟩, ?_, fun b hb => ?_⟩
    · rw [show ∀ (W : World) a, (W.drewN q).cell? a = W.cell? a from fun W a => by unfold World.cell?; rw [drewN_heap]]
      rw [World.cell?_setCell_other _ _ _ _ (by simp)]; exact h.1
    · rw [show ∀ (W : World) a, (W.drewN q).cell? a = W.cell? a from fun W a => by unfold World.cell?; rw [drewN_heap]]
      rw [World.cell?_setCell_same _ _ _ h.2.1]; rfl
    · rw [show ∀ (W : World) a, (W.drewN q).frozen? a = W.frozen? a from fun W a => by unfold World.frozen?; rw [drewN_heap]]
      rw [World.frozen?_setCell]; exact h.2.2.1
    · exact below_drewN (h.2.2.2.1.setCell (p := ⟨rb, 1, none⟩) (Nat.le_refl _) _) q
    · rw [drewN_heap]; have := h.2.2.2.2; simpa [World.setCell] using this
    · rw [drewN_heap]; simp [World.setCell]
    · rw [drewN_heap]; simp only [World.setCell, Array.getElem?_modify]; rw [if_neg (fun e => hb e.symm)]
/-- Some number, and one byte more read. -/
def Drew3 (w0 : World) (v : Value) (rb p : Nat) (w : World) (e : Ending) (w' : World) : Prop := ∃ x : Int, e = .returned (.int .i64 x) ∧ Rd w0 v rb (p + 1) w' ∧ Keep rb w w'
theorem num (w0 : World) (v : Value) (n rb p g len : Nat) (xs : Nat → Int) (w : World) (hC : Code rb w0 v n) (h : Rd w0 v rb p w) (hp : p ≤ 100) (hg : g ≠ rb) (hl : 1 ≤ len) (hl2 : len ≤ 1000) (hx : ∀ i, i < len → w.cell? ⟨g, i, none⟩ = some (.int .i64 (xs i))) :
    Calls Try.prog 38 #[.pointer (some ⟨rb, 0, none⟩), .slice (some ⟨g, 0, none⟩) len len] w (Drew3 w0 v rb p w) := by
  have HP := Lib.hid (pick2 w0 v n rb p (len : Int) w hC h hp (by omega) (by omega))
  have HX := Lib.hid hx
  clear hx h hC
  go_enter Try.func38, Try.ntmps38
  go_wp2_with fail
  refine (HP.out).mono ?_
  rintro e w1 ⟨x, h0, h1, rfl, hr, hk⟩
  obtain ⟨i, rfl⟩ := Int.eq_ofNat_of_zero_le h0
  have hi : i < len := by omega
  have hc : w1.cell? ⟨g, i, none⟩ = some (.int .i64 (xs i)) := (keep_cell hk hg).trans (HX.out i hi)
  have HR := Lib.hid hr
  have HK := Lib.hid hk
  clear hr hk
  go_wp2_with fail
  go_ret
  exact ⟨xs i, rfl, HR.out, HK.out⟩
theorem zero3 (w : World) (t : TypeId) (x y z : Int) : ((box w t x y z).cell? ⟨w.heap.size, 0, none⟩ = some (.int .i64 x) ∧ (box w t x y z).cell? ⟨w.heap.size, 1, none⟩ = some (.int .i64 y) ∧ (box w t x y z).cell? ⟨w.heap.size, 2, none⟩ = some (.int .i64 z)) ∧
    ((box w t x y z).frozen? ⟨w.heap.size, 0, none⟩ = false ∧ (box w t x y z).frozen? ⟨w.heap.size, 1, none⟩ = false ∧ (box w t x y z).frozen? ⟨w.heap.size, 2, none⟩ = false) := by
  refine ⟨⟨?_, ?_, ?_⟩, ⟨?_, ?_, ?_⟩⟩
  all_goals first
    | simp [World.cell?_alloc_at]
    | simp [World.frozen?_alloc_at]
def Spot (w0 : World) (v : Value) (rb p : Nat) (e : Ending) (w' : World) : Prop := ∃ x y z : Int, e = .returned (.agg #[.int .i64 x, .int .i64 y, .int .i64 z]) ∧ Rd w0 v rb p w'
set_option maxHeartbeats 2000000 in
theorem spot (w0 : World) (v : Value) (n rb p : Nat) (w : World) (hC : Code rb w0 v n) (h : Rd w0 v rb p w) (hp : p ≤ 90) :
    Calls Try.prog 31 #[.pointer (some ⟨rb, 0, none⟩)] w (Spot w0 v rb (p + 3)) := by
  have hz := zero3 w 24 0 0 0
  have hlt := h.2.2.2.2
  have HP := Lib.hid (fun p w h hp => pick2 w0 v n rb p 3 w hC h hp (by omega) (by omega))
  have H0 := Lib.hid (rd_alloc h (.cells #[.int .i64 0, .int .i64 0, .int .i64 0] 24))
  have HZ := Lib.hid hz
  clear hz h hC
  go_enter Try.func31, Try.ntmps31
  go_wp2_with fail
  refine (HP.out p _ H0.out (by omega)).mono ?_
  rintro e w1 ⟨x, _, _, rfl, hr1, hk1⟩
  have H1 := Lib.hid hr1
  have K1 := Lib.hid hk1
  clear hr1 hk1
  go_wp2_with fail
  refine (HP.out (p + 1) _ H1.out (by omega)).mono ?_
  rintro e w2 ⟨y, _, _, rfl, hr2, hk2⟩
  have H2 := Lib.hid hr2
  have K2 := Lib.hid (keep_trans K1.out hk2)
  clear hr2 hk2
  go_wp2_with fail
  refine (HP.out (p + 2) _ H2.out (by omega)).mono ?_
  rintro e w3 ⟨z, _, _, rfl, hr3, hk3⟩
  have K3 := Lib.hid (keep_trans K2.out hk3)
  have H3 := Lib.hid hr3
  clear hr3 hk3
  have hne : w.heap.size ≠ rb := by omega
  have c0 := (keep_cell (o := 0) K3.out hne).trans HZ.out.1.1
  have c1 := (keep_cell (o := 1) K3.out hne).trans HZ.out.1.2.1
  have c2 := (keep_cell (o := 2) K3.out hne).trans HZ.out.1.2.2
  have f0 := (keep_frozen (o := 0) K3.out hne).trans HZ.out.2.1
  have f1 := (keep_frozen (o := 1) K3.out hne).trans HZ.out.2.2.1
  have f2 := (keep_frozen (o := 2) K3.out hne).trans HZ.out.2.2.2
  go_wp2_with fail
  exact bodyPost_ret (v := .agg #[.int .i64 x, .int .i64 y, .int .i64 z]) (by simp [results, Try.results31, go_sem, c0, c1, c2]) rfl ⟨x, y, z, rfl, rd_set (rd_set (rd_set H3.out 0 _ hlt) 1 _ hlt) 2 _ hlt⟩
set_option maxHeartbeats 4000000 in
theorem badSpot (w0 : World) (v : Value) (n rb p : Nat) (x y z : Int) (w : World) (hC : Code rb w0 v n) (h : Rd w0 v rb p w) (hp : p ≤ 90) :
    Calls Try.prog 30 #[.pointer (some ⟨rb, 0, none⟩), .agg #[.int .i64 x, .int .i64 y, .int .i64 z]] w fun e w' => ∃ p', Spot w0 v rb p' e w' := by
  have hlt := h.2.2.2.2
  have hz1 := zero3 w 24 x y z
  have hz2 := zero3 (box w 24 x y z) 24 0 0 0
  rw [show (box w 24 x y z).heap.size = w.heap.size + 1 by simp] at hz2
  have HP := Lib.hid (fun p w h hp => pick2 w0 v n rb p 24 w hC h hp (by omega) (by omega))
  have HN := Lib.hid (fun p g len xs w h hp hg hl hl2 hx => num w0 v n rb p g len xs w hC h hp hg hl hl2 hx)
  have H0 := Lib.hid (rd_alloc (rd_alloc h (.cells #[.int .i64 x, .int .i64 y, .int .i64 z] 24)) (.cells #[.int .i64 0, .int .i64 0, .int .i64 0] 24))
  have HB := Lib.hid ((Below.refl _ (box w 24 x y z)).alloc (Nat.le_refl _) (.cells #[.int .i64 0, .int .i64 0, .int .i64 0] 24))
  have HS := Lib.hid (show ((w.alloc (.cells #[.int .i64 x, .int .i64 y, .int .i64 z] 24)).alloc (.cells #[.int .i64 0, .int .i64 0, .int .i64 0] 24)).heap.size = w.heap.size + 2 by simp)
  have HZ1 := Lib.hid hz1
  have HZ2 := Lib.hid hz2
  clear hz1 hz2 h hC
  go_enter Try.func30, Try.ntmps30
  go_wp2_with fail
  refine (HP.out p _ H0.out (by omega)).mono ?_
  rintro e w1 ⟨k, k0, k1, rfl, hr1, hk1⟩
  have H1 := Lib.hid hr1
  have K1 := Lib.hid hk1
  have hsz : w.heap.size + 2 ≤ w1.heap.size := Nat.le_of_eq (hk1.1.trans HS.out).symm
  have HSZ := Lib.hid (hk1.1.trans HS.out)
  have hne : w.heap.size ≠ rb := by omega
  have hne1 : w.heap.size + 1 ≠ rb := by omega
  have hl1 : w.heap.size < (box w 24 x y z).heap.size := by simp
  have a0 := (keep_cell (o := 0) hk1 hne).trans ((HB.out.cell (p := ⟨w.heap.size, 0, none⟩) hl1).trans HZ1.out.1.1)
  have a1 := (keep_cell (o := 1) hk1 hne).trans ((HB.out.cell (p := ⟨w.heap.size, 1, none⟩) hl1).trans HZ1.out.1.2.1)
  have a2 := (keep_cell (o := 2) hk1 hne).trans ((HB.out.cell (p := ⟨w.heap.size, 2, none⟩) hl1).trans HZ1.out.1.2.2)
  have g0 := (keep_frozen (o := 0) hk1 hne).trans ((HB.out.frozen (p := ⟨w.heap.size, 0, none⟩) hl1).trans HZ1.out.2.1)
  have g2 := (keep_frozen (o := 2) hk1 hne).trans ((HB.out.frozen (p := ⟨w.heap.size, 2, none⟩) hl1).trans HZ1.out.2.2.2)
  have c0 := (keep_cell (o := 0) hk1 hne1).trans HZ2.out.1.1
  have c1 := (keep_cell (o := 1) hk1 hne1).trans HZ2.out.1.2.1
  have c2 := (keep_cell (o := 2) hk1 hne1).trans HZ2.out.1.2.2
  have f0 := (keep_frozen (o := 0) hk1 hne1).trans HZ2.out.2.1
  have f1 := (keep_frozen (o := 1) hk1 hne1).trans HZ2.out.2.2.1
  have f2 := (keep_frozen (o := 2) hk1 hne1).trans HZ2.out.2.2.2
  clear hr1 hk1
  by_cases e0 : k = 0
  · subst e0
    have hx : ∀ i, i < 3 → (w1.alloc (.cells #[.int .i64 (-1), .int .i64 3, .int .i64 9223372036854775807] 3)).cell? ⟨w1.heap.size, i, none⟩ = some (.int .i64 ((fun i => if i = 0 then -1 else if i = 1 then 3 else 9223372036854775807 : Nat → Int) i)) := fun i hi => by
      match i, hi with
      | 0, _ => simp [World.cell?_alloc_at]
      | 1, _ => simp [World.cell?_alloc_at]
      | 2, _ => simp [World.cell?_alloc_at]
    have HB1 := Lib.hid ((Below.refl _ w1).alloc (Nat.le_refl _) (.cells #[.int .i64 (-1), .int .i64 3, .int .i64 9223372036854775807] 3))
    have HC := Lib.hid (HN.out (p + 1) w1.heap.size 3 _ _ (rd_alloc H1.out _) (by omega) (by omega) (by omega) (by omega) hx)
    have HA := Lib.hid (⟨a0, a1, a2, g0, g2⟩ : _ ∧ _ ∧ _ ∧ _ ∧ _)
    have HE := Lib.hid (⟨c0, c1, c2, f0, f1, f2⟩ : _ ∧ _ ∧ _ ∧ _ ∧ _ ∧ _)
    clear hx a0 a1 a2 g0 g2 c0 c1 c2 f0 f1 f2
    go_wp2_with fail
    refine (HC.out).mono ?_
    rintro e w2 ⟨v, rfl, hr2, hk2⟩
    have hl2 : w.heap.size < w1.heap.size := by omega
    have hl3 : w.heap.size + 1 < w1.heap.size := by omega
    have a0 := (keep_cell (o := 0) hk2 hne).trans ((HB1.out.cell (p := ⟨w.heap.size, 0, none⟩) hl2).trans HA.out.1)
    have a1 := (keep_cell (o := 1) hk2 hne).trans ((HB1.out.cell (p := ⟨w.heap.size, 1, none⟩) hl2).trans HA.out.2.1)
    have a2 := (keep_cell (o := 2) hk2 hne).trans ((HB1.out.cell (p := ⟨w.heap.size, 2, none⟩) hl2).trans HA.out.2.2.1)
    have g0 := (keep_frozen (o := 0) hk2 hne).trans ((HB1.out.frozen (p := ⟨w.heap.size, 0, none⟩) hl2).trans HA.out.2.2.2.1)
    have c0 := (keep_cell (o := 0) hk2 hne1).trans ((HB1.out.cell (p := ⟨w.heap.size + 1, 0, none⟩) hl3).trans HE.out.1)
    have c1 := (keep_cell (o := 1) hk2 hne1).trans ((HB1.out.cell (p := ⟨w.heap.size + 1, 1, none⟩) hl3).trans HE.out.2.1)
    have c2 := (keep_cell (o := 2) hk2 hne1).trans ((HB1.out.cell (p := ⟨w.heap.size + 1, 2, none⟩) hl3).trans HE.out.2.2.1)
    have f0 := (keep_frozen (o := 0) hk2 hne1).trans ((HB1.out.frozen (p := ⟨w.heap.size + 1, 0, none⟩) hl3).trans HE.out.2.2.2.1)
    have f1 := (keep_frozen (o := 1) hk2 hne1).trans ((HB1.out.frozen (p := ⟨w.heap.size + 1, 1, none⟩) hl3).trans HE.out.2.2.2.2.1)
    have f2 := (keep_frozen (o := 2) hk2 hne1).trans ((HB1.out.frozen (p := ⟨w.heap.size + 1, 2, none⟩) hl3).trans HE.out.2.2.2.2.2)
    have H2 := Lib.hid (rd_set hr2 (b := w.heap.size) 0 (.int .i64 v) hlt)
    clear hr2 hk2
    go_wp2_with fail
    exact bodyPost_ret (v := .agg #[.int .i64 v, .int .i64 y, .int .i64 z]) (by simp [results, Try.results30, go_sem, c0, c1, c2]) rfl ⟨p + 1 + 1, v, y, z, rfl, rd_set (rd_set (rd_set H2.out 0 _ (by omega)) 1 _ (by omega)) 2 _ (by omega)⟩
  · by_cases e1 : k = 1
    · subst e1
      have hx : ∀ i, i < 2 → (w1.alloc (.cells #[.int .i64 (-1), .int .i64 3] 3)).cell? ⟨w1.heap.size, i, none⟩ = some (.int .i64 ((fun i => if i = 0 then -1 else 3 : Nat → Int) i)) := fun i hi => by
        match i, hi with
        | 0, _ => simp [World.cell?_alloc_at]
        | 1, _ => simp [World.cell?_alloc_at]
      have HB1 := Lib.hid ((Below.refl _ w1).alloc (Nat.le_refl _) (.cells #[.int .i64 (-1), .int .i64 3] 3))
      have HC := Lib.hid (HN.out (p + 1) w1.heap.size 2 _ _ (rd_alloc H1.out _) (by omega) (by omega) (by omega) (by omega) hx)
      have HA := Lib.hid (⟨a0, a1, a2, g0, g2⟩ : _ ∧ _ ∧ _ ∧ _ ∧ _)
      have HE := Lib.hid (⟨c0, c1, c2, f0, f1, f2⟩ : _ ∧ _ ∧ _ ∧ _ ∧ _ ∧ _)
      clear hx a0 a1 a2 g0 g2 c0 c1 c2 f0 f1 f2
      go_wp2_with fail
      refine (HC.out).mono ?_
      rintro e w2 ⟨v, rfl, hr2, hk2⟩
      have hl2 : w.heap.size < w1.heap.size := by omega
      have hl3 : w.heap.size + 1 < w1.heap.size := by omega
      have a0 := (keep_cell (o := 0) hk2 hne).trans ((HB1.out.cell (p := ⟨w.heap.size, 0, none⟩) hl2).trans HA.out.1)
      have a1 := (keep_cell (o := 1) hk2 hne).trans ((HB1.out.cell (p := ⟨w.heap.size, 1, none⟩) hl2).trans HA.out.2.1)
      have a2 := (keep_cell (o := 2) hk2 hne).trans ((HB1.out.cell (p := ⟨w.heap.size, 2, none⟩) hl2).trans HA.out.2.2.1)
      have g0 := (keep_frozen (o := 2) hk2 hne).trans ((HB1.out.frozen (p := ⟨w.heap.size, 2, none⟩) hl2).trans HA.out.2.2.2.2)
      have c0 := (keep_cell (o := 0) hk2 hne1).trans ((HB1.out.cell (p := ⟨w.heap.size + 1, 0, none⟩) hl3).trans HE.out.1)
      have c1 := (keep_cell (o := 1) hk2 hne1).trans ((HB1.out.cell (p := ⟨w.heap.size + 1, 1, none⟩) hl3).trans HE.out.2.1)
      have c2 := (keep_cell (o := 2) hk2 hne1).trans ((HB1.out.cell (p := ⟨w.heap.size + 1, 2, none⟩) hl3).trans HE.out.2.2.1)
      have f0 := (keep_frozen (o := 0) hk2 hne1).trans ((HB1.out.frozen (p := ⟨w.heap.size + 1, 0, none⟩) hl3).trans HE.out.2.2.2.1)
      have f1 := (keep_frozen (o := 1) hk2 hne1).trans ((HB1.out.frozen (p := ⟨w.heap.size + 1, 1, none⟩) hl3).trans HE.out.2.2.2.2.1)
      have f2 := (keep_frozen (o := 2) hk2 hne1).trans ((HB1.out.frozen (p := ⟨w.heap.size + 1, 2, none⟩) hl3).trans HE.out.2.2.2.2.2)
      have H2 := Lib.hid (rd_set hr2 (b := w.heap.size) 2 (.int .i64 v) hlt)
      clear hr2 hk2
      go_wp2_with fail
      exact bodyPost_ret (v := .agg #[.int .i64 x, .int .i64 y, .int .i64 v]) (by simp [results, Try.results30, go_sem, c0, c1, c2]) rfl ⟨p + 1 + 1, x, y, v, rfl, rd_set (rd_set (rd_set H2.out 0 _ (by omega)) 1 _ (by omega)) 2 _ (by omega)⟩
    · have q0 : (k == 0) = false := by simp; omega
      have q1 : (k == 1) = false := by simp; omega
      clear e0 e1
      go_wp2_with fail
      exact bodyPost_ret (v := .agg #[.int .i64 x, .int .i64 y, .int .i64 z]) (by simp [results, Try.results30, go_sem, c0, c1, c2]) rfl ⟨p + 1, x, y, z, rfl, rd_set (rd_set (rd_set H1.out 0 _ (by omega)) 1 _ (by omega)) 2 _ (by omega)⟩
/-! ### The law -/
theorem code_alloc {N N' : Nat} {w w' : World} {v : Value} {n : Nat} (h : Code N w v n) (hN : N ≤ N') (hb : ∀ a : Addr, a.block < N → w'.cell? a = w.cell? a) : Code N' w' v n := by
  rcases h with h | ⟨a, cap, f, hv, h1, h2, h3, h4, h5⟩
  · exact .inl h
  · exact .inr ⟨a, cap, f, hv, h1, h2, by omega, fun i hi => by rw [hb _ (by rw [add_block]; exact h3)]; exact h4 i hi, h5⟩
theorem rd_new (w0 : World) (v : Value) (t : TypeId) : Rd w0 v w0.heap.size 0 (w0.alloc (.cells #[v, .int .i64 0] t)) :=
  ⟨by simp [World.cell?_alloc_at], by simp [World.cell?_alloc_at], by simp [World.frozen?_alloc_at], (Below.refl _ w0).alloc (Nat.le_refl _) _, by simp⟩
def SomeState (w : World) (e : Ending) (w' : World) : Prop := ∃ x y z : Int, e = .returned (.agg #[.int .i64 x, .int .i64 y, .int .i64 z]) ∧ Below w.heap.size w w'
theorem specOpen (w : World) (v : Value) (n : Nat) (hC : Code w.heap.size w v n) :
    Calls Try.prog 29 #[v] w fun e w' => ∃ v' n', e = .returned (.pointer (some ⟨w.heap.size, 0, none⟩)) ∧ Code w.heap.size w v' n' ∧ w' = w.alloc (.cells #[v', .int .i64 0] 56) := by
  have HC := Lib.hid hC
  rcases hC with ⟨a, cap, rfl, rfl⟩ | ⟨a, cap, f, rfl, hn, hcap, hab, hcells, hbyte⟩
  · go_enter Try.func29, Try.ntmps29
    go_wp2_with fail
    go_ret
    exact ⟨_, 0, rfl, HC.out, rfl⟩
  · by_cases h2 : n ≤ 2000
    · have h2' : (n : Int) ≤ 2000 := by omega
      clear hcells hbyte
      go_enter Try.func29, Try.ntmps29
      go_wp2_with fail
      go_ret
      exact ⟨_, n, rfl, HC.out, rfl⟩
    · have h2' : (2000 : Int) < (n : Int) := by omega
      have HC2 := Lib.hid (show Code w.heap.size w (.slice (some a) 2000 cap) 2000 from .inr ⟨a, cap, f, rfl, by omega, hcap, hab, fun i hi => hcells i (by omega), hbyte⟩)
      have hcp : (2000 : Int) ≤ (cap : Int) := by omega
      clear hcells hbyte
      go_enter Try.func29, Try.ntmps29
      go_wp2_with fail
      go_ret
      exact ⟨_, 2000, rfl, HC2.out, rfl⟩
set_option maxHeartbeats 2000000 in
theorem specDraw (w : World) (v : Value) (n : Nat) (hC : Code w.heap.size w v n) :
    Calls Try.prog 18 #[v] w (SomeState w) := by
  have hz := zero3 w 24 0 0 0
  unfold box at hz
  have hcc := code_alloc (N' := (w.alloc (.cells #[.int .i64 0, .int .i64 0, .int .i64 0] 24)).heap.size) (w' := w.alloc (.cells #[.int .i64 0, .int .i64 0, .int .i64 0] 24)) hC (by simp) (fun a ha => ((Below.refl _ w).alloc (Nat.le_refl _) _).cell ha)
  have hsz : (w.alloc (.cells #[.int .i64 0, .int .i64 0, .int .i64 0] 24)).heap.size = w.heap.size + 1 := by simp
  have hbb : Below w.heap.size w (w.alloc (.cells #[.int .i64 0, .int .i64 0, .int .i64 0] 24)) := (Below.refl _ w).alloc (Nat.le_refl _) _
  obtain ⟨W0, hW0⟩ : ∃ W, w.alloc (.cells #[.int .i64 0, .int .i64 0, .int .i64 0] 24) = W := ⟨_, rfl⟩
  rw [hW0] at hz hcc hsz hbb
  have HW0 := Lib.hid hW0
  have HO := Lib.hid (specOpen W0 v n hcc)
  have HSZ := Lib.hid hsz
  have HBB := Lib.hid hbb
  have HZ := Lib.hid hz
  clear hz hC hcc hsz hbb hW0
  go_enter Try.func18, Try.ntmps18
  go_wp2_with fail
  rw [HW0.out]
  refine (HO.out).mono ?_
  rintro e w1 ⟨v', n', rfl, hc1, rfl⟩
  have R0 := Lib.hid (rd_new W0 v' 56)
  have HC1 := Lib.hid hc1
  clear hc1
  go_wp2_with fail
  refine (spot W0 v' n' W0.heap.size 0 _ HC1.out R0.out (by omega)).mono ?_
  rintro e w2 ⟨x, y, z, rfl, hr2⟩
  have R2 := Lib.hid hr2
  clear hr2
  go_wp2_with fail
  refine (badSpot W0 v' n' W0.heap.size (0 + 3) x y z _ HC1.out R2.out (by omega)).mono ?_
  rintro e w3 ⟨p', x', y', z', rfl, hr3⟩
  have hb3 : Below (w.heap.size + 1) W0 w3 := by rw [← HSZ.out]; exact hr3.2.2.2.1
  have c0 := (hb3.cell (p := ⟨w.heap.size, 0, none⟩) (Nat.lt_succ_self _)).trans HZ.out.1.1
  have c1 := (hb3.cell (p := ⟨w.heap.size, 1, none⟩) (Nat.lt_succ_self _)).trans HZ.out.1.2.1
  have c2 := (hb3.cell (p := ⟨w.heap.size, 2, none⟩) (Nat.lt_succ_self _)).trans HZ.out.1.2.2
  have f0 := (hb3.frozen (p := ⟨w.heap.size, 0, none⟩) (Nat.lt_succ_self _)).trans HZ.out.2.1
  have f1 := (hb3.frozen (p := ⟨w.heap.size, 1, none⟩) (Nat.lt_succ_self _)).trans HZ.out.2.2.1
  have f2 := (hb3.frozen (p := ⟨w.heap.size, 2, none⟩) (Nat.lt_succ_self _)).trans HZ.out.2.2.2
  have HB := Lib.hid (HBB.out.trans (hb3.mono (Nat.le_succ _)))
  clear hr3 hb3
  go_wp2_with fail
  exact bodyPost_ret (v := .agg #[.int .i64 x', .int .i64 y', .int .i64 z']) (by simp [results, Try.results18, go_sem, c0, c1, c2]) rfl ⟨x', y', z', rfl, ((HB.out.setCell (p := ⟨w.heap.size, 0, none⟩) (Nat.le_refl _) _).setCell (p := ⟨w.heap.size, 1, none⟩) (Nat.le_refl _) _).setCell (p := ⟨w.heap.size, 2, none⟩) (Nat.le_refl _) _⟩
set_option maxHeartbeats 2000000 in
theorem specDrawIndex (w : World) (v : Value) (n : Nat) (hC : Code w.heap.size w v n) :
    Calls Try.prog 5 #[v] w (SomeState w) := by
  have hz := zero3 w 24 0 0 0
  unfold box at hz
  have hcc := code_alloc (N' := (w.alloc (.cells #[.int .i64 0, .int .i64 0, .int .i64 0] 24)).heap.size) (w' := w.alloc (.cells #[.int .i64 0, .int .i64 0, .int .i64 0] 24)) hC (by simp) (fun a ha => ((Below.refl _ w).alloc (Nat.le_refl _) _).cell ha)
  have hsz : (w.alloc (.cells #[.int .i64 0, .int .i64 0, .int .i64 0] 24)).heap.size = w.heap.size + 1 := by simp
  have hbb : Below w.heap.size w (w.alloc (.cells #[.int .i64 0, .int .i64 0, .int .i64 0] 24)) := (Below.refl _ w).alloc (Nat.le_refl _) _
  obtain ⟨W0, hW0⟩ : ∃ W, w.alloc (.cells #[.int .i64 0, .int .i64 0, .int .i64 0] 24) = W := ⟨_, rfl⟩
  rw [hW0] at hz hcc hsz hbb
  have HW0 := Lib.hid hW0
  have HO := Lib.hid (specDraw W0 v n hcc)
  have HSZ := Lib.hid hsz
  have HBB := Lib.hid hbb
  have HZ := Lib.hid hz
  clear hz hC hcc hsz hbb hW0
  go_enter Try.func5, Try.ntmps5
  go_wp2_with fail
  rw [HW0.out]
  refine (HO.out).mono ?_
  rintro e w3 ⟨x', y', z', rfl, hb0⟩
  have hb3 : Below (w.heap.size + 1) W0 w3 := by rw [← HSZ.out]; exact hb0
  have c0 := (hb3.cell (p := ⟨w.heap.size, 0, none⟩) (Nat.lt_succ_self _)).trans HZ.out.1.1
  have c1 := (hb3.cell (p := ⟨w.heap.size, 1, none⟩) (Nat.lt_succ_self _)).trans HZ.out.1.2.1
  have c2 := (hb3.cell (p := ⟨w.heap.size, 2, none⟩) (Nat.lt_succ_self _)).trans HZ.out.1.2.2
  have f0 := (hb3.frozen (p := ⟨w.heap.size, 0, none⟩) (Nat.lt_succ_self _)).trans HZ.out.2.1
  have f1 := (hb3.frozen (p := ⟨w.heap.size, 1, none⟩) (Nat.lt_succ_self _)).trans HZ.out.2.2.1
  have f2 := (hb3.frozen (p := ⟨w.heap.size, 2, none⟩) (Nat.lt_succ_self _)).trans HZ.out.2.2.2
  have HB := Lib.hid (HBB.out.trans (hb3.mono (Nat.le_succ _)))
  clear hb0 hb3
  go_wp2_with fail
  exact bodyPost_ret (v := .agg #[.int .i64 x', .int .i64 y', .int .i64 z']) (by simp [results, Try.results5, go_sem, c0, c1, c2]) rfl ⟨x', y', z', rfl, ((HB.out.setCell (p := ⟨w.heap.size, 0, none⟩) (Nat.le_refl _) _).setCell (p := ⟨w.heap.size, 1, none⟩) (Nat.le_refl _) _).setCell (p := ⟨w.heap.size, 2, none⟩) (Nat.le_refl _) _⟩
theorem find_fm {i : Nat} (h : i < 27) : findT (fm i) = some i := by
  have h1 : ((List.range 27).all fun i => findT (fm i) == some i) = true := by kernel_rfl
  rw [List.all_eq_true] at h1
  have := h1 i (by simpa using h)
  simpa using this
/-- The drawn state lies at B. -/
def KS (B : Nat) (x y z : Int) (w0 w : World) : Prop := (w.cell? ⟨B, 0, none⟩ = some (.int .i64 x) ∧ w.cell? ⟨B, 1, none⟩ = some (.int .i64 y) ∧ w.cell? ⟨B, 2, none⟩ = some (.int .i64 z)) ∧ B < w.heap.size ∧ Below w0.heap.size w0 w
theorem KS_step {B : Nat} {x y z : Int} {w0 w w' : World} (h : KS B x y z w0 w) (hb : Below w.heap.size w w') : KS B x y z w0 w' :=
  ⟨⟨(hb.cell (p := ⟨B, 0, none⟩) h.2.1).trans h.1.1, (hb.cell (p := ⟨B, 1, none⟩) h.2.1).trans h.1.2.1, (hb.cell (p := ⟨B, 2, none⟩) h.2.1).trans h.1.2.2⟩, Nat.lt_of_lt_of_le h.2.1 hb.size, h.2.2.trans (hb.mono h.2.2.size)⟩
theorem KS_alloc {B : Nat} {x y z : Int} {w0 w : World} (h : KS B x y z w0 w) (o : Obj) : KS B x y z w0 (w.alloc o) := KS_step h ((Below.refl _ w).alloc (Nat.le_refl _) o)
theorem KS_new {w0 w : World} (t : TypeId) (x y z : Int) (h : Below w0.heap.size w0 w) : KS w.heap.size x y z w0 (w.alloc (.cells #[.int .i64 x, .int .i64 y, .int .i64 z] t)) :=
  ⟨⟨by simp [World.cell?_alloc_at], by simp [World.cell?_alloc_at], by simp [World.cell?_alloc_at]⟩, by simp, h.alloc h.size _⟩
theorem valid_below (x y z : Int) (w : World) : Calls Try.prog 10 #[.agg #[.int .i64 x, .int .i64 y, .int .i64 z]] w fun e w' => e = .returned (.bool (stB x y z)) ∧ Below w.heap.size w w' :=
  (implStateValid x y z w).mono fun e w' h => ⟨h.1, by rw [← h.2]; exact (Below.refl _ _).alloc (Nat.le_refl _) _⟩
set_option maxRecDepth 100000 in
set_option maxHeartbeats 8000000 in
theorem lawStateNumber (a : Option Addr) (n cap : Nat) (zs : List Int) (w : World) (hr : Go.Proofs.Ytaimlfhbcgocnaa.IsRow .u8 w a n cap zs) :
    Calls Try.prog 3 #[.slice a n cap] w fun e w' => e = .returned (.bool true) ∧ Below w.heap.size w w' := by
  by_cases hbig : n ≤ 1048576
  · have h1 : (n : Int) ≤ 1048576 := by omega
    have hC : Code w.heap.size w (.slice a n cap) n := by
      rcases hr with ⟨rfl, rfl, rfl, rfl⟩ | ⟨x, rfl, hl, hm, hz, hc, hw⟩
      · exact .inl ⟨_, _, rfl, rfl⟩
      · by_cases hn : n = 0
        · exact .inl ⟨_, _, by rw [hn], hn⟩
        · refine .inr ⟨x, cap, fun i => zs.getD i 0, rfl, hl, hm, ?_, fun i hi => hc i (by omega), fun i => ?_⟩
          · have := World.block_lt_of_cell? w _ (hc 0 (by omega))
            rwa [add_block] at this
          · by_cases hi : i < zs.length
            · have := hw (zs.getD i 0) (by rw [List.getD_eq_getElem?_getD, List.getElem?_eq_getElem hi]; exact List.getElem_mem _)
              have e1 : IntKind.u8.min = 0 := rfl
              have e2 : IntKind.u8.max = 255 := rfl
              simp only [Lit.wf, e1, e2, Bool.and_eq_true, decide_eq_true_eq] at this
              exact this
            · show 0 ≤ zs.getD i 0 ∧ zs.getD i 0 ≤ 255
              rw [List.getD_eq_getElem?_getD, List.getElem?_eq_none (by omega)]
              simp
    have HD := Lib.hid (specDrawIndex w _ n hC)
    clear hC hr
    go_enter Try.func3, Try.ntmps3
    go_wp2_with fail
    refine (HD.out).mono ?_
    rintro e w1 ⟨x, y, z, rfl, hb1⟩
    have K1 := Lib.hid (KS_new 24 x y z hb1)
    clear hb1 HD
    cases hst : stB x y z with
    | false =>
      have HA := Lib.hid (fun w => implStateIndex x y z w)
      have HA2 := Lib.hid (fun w => specStateIndex x y z w)
      have HF := Lib.hid (fun w => implFormatNot x y z w hst)
      have HF2 := Lib.hid (fun w => specFormatNot x y z w hst)
      have HV := Lib.hid (fun w => valid_below x y z w)
      rw [numB_false hst] at HA HA2
      rw [hst] at HV
      clear hst
      go_wp2_with fail
      refine (HA.out _).mono ?_
      rintro e w2 ⟨rfl, hb2⟩
      have K2 := Lib.hid (KS_step K1.out hb2)
      clear hb2
      obtain ⟨⟨c20, c21, c22⟩, hl2, _⟩ := K2.out
      go_wp2_with fail
      refine (HF.out _).mono ?_
      rintro e w3 ⟨rfl, hb3⟩
      have K3 := Lib.hid (KS_step K2.out hb3)
      clear hb3
      obtain ⟨⟨c30, c31, c32⟩, hl3, _⟩ := K3.out
      go_wp2_with fail
      refine (HA2.out _).mono ?_
      rintro e w4 ⟨rfl, hb4⟩
      have K4 := Lib.hid (KS_step K3.out hb4)
      clear hb4
      obtain ⟨⟨c40, c41, c42⟩, hl4, _⟩ := K4.out
      go_wp2_with fail
      refine (HF2.out _).mono ?_
      rintro e w5 ⟨rfl, hb5⟩
      have K5 := Lib.hid (KS_step K4.out hb5)
      clear hb5
      obtain ⟨⟨c50, c51, c52⟩, hl5, _⟩ := K5.out
      go_wp2_with fail
      refine (HV.out _).mono ?_
      rintro e w6 ⟨rfl, hb6⟩
      have K6 := Lib.hid (KS_step K5.out hb6)
      clear hb6
      obtain ⟨⟨c60, c61, c62⟩, hl6, _⟩ := K6.out
      go_wp2_with fail
      refine (HA2.out _).mono ?_
      rintro e w7 ⟨rfl, hb7⟩
      have K7 := Lib.hid (KS_step K6.out hb7)
      clear hb7
      obtain ⟨⟨c70, c71, c72⟩, hl7, _⟩ := K7.out
      go_wp2_with fail
      refine (HF2.out _).mono ?_
      rintro e w8 ⟨rfl, hb8⟩
      have K8 := Lib.hid (KS_step K7.out hb8)
      clear hb8
      obtain ⟨⟨c80, c81, c82⟩, hl8, _⟩ := K8.out
      go_wp2_with fail
      refine (HV.out _).mono ?_
      rintro e w9 ⟨rfl, hb9⟩
      have K9 := Lib.hid (KS_step K8.out hb9)
      clear hb9
      obtain ⟨⟨c90, c91, c92⟩, hl9, _⟩ := K9.out
      go_wp2_with fail
      go_ret
      exact ⟨rfl, K9.out.2.2⟩
    | true =>
      obtain ⟨m, hm, rfl, rfl, rfl⟩ : ∃ m : Nat, m < 27 ∧ x = sx m ∧ y = sy m ∧ z = sz m := by
        have h := of_stB hst
        have h1 := ix_range h
        have h2 := s_ix h
        obtain ⟨m, hm⟩ := Int.eq_ofNat_of_zero_le h1.1
        rw [hm] at h1 h2
        exact ⟨m, by omega, h2.1.symm, h2.2.1.symm, h2.2.2.symm⟩
      have hm1 : (m : Int) < 27 := by omega
      have HA := Lib.hid (fun w => implStateIndex (sx m) (sy m) (sz m) w)
      have HA2 := Lib.hid (fun w => specStateIndex (sx m) (sy m) (sz m) w)
      have HF := Lib.hid (fun w => implFormat (sx m) (sy m) (sz m) w hst)
      have HF2 := Lib.hid (fun w => specFormat (sx m) (sy m) (sz m) w hst)
      have HV := Lib.hid (fun w => valid_below (sx m) (sy m) (sz m) w)
      rw [numB_true hst, ix_s (by omega) hm1] at HA HA2
      rw [fm_eq] at HF HF2
      rw [hst] at HV
      have HX := Lib.hid (fun w => implStateAtIn (m : Int) w (by omega) hm1)
      have HY := Lib.hid (fun w => implParseSome (fm m) m w (find_fm hm))
      have hsz : (fm m).size = 3 := by unfold fm fmtB; rw [strOfNums_size]; rfl
      obtain ⟨t, ht⟩ : ∃ t, fm m = t := ⟨_, rfl⟩
      rw [ht] at HF HF2 HY hsz
      have hsz' : (t.size : Int) = 3 := by omega
      obtain ⟨X, hX⟩ : ∃ X : Int, sx m = X := ⟨_, rfl⟩
      obtain ⟨Y, hY⟩ : ∃ X : Int, sy m = X := ⟨_, rfl⟩
      obtain ⟨Z, hZ⟩ : ∃ X : Int, sz m = X := ⟨_, rfl⟩
      rw [hX, hY, hZ] at HA HA2 HF HF2 HV HX HY K1 ⊢
      clear hst hX hY hZ ht hsz
      go_wp2_with fail
      refine (HA.out _).mono ?_
      rintro e w2 ⟨rfl, hb2⟩
      have K2 := Lib.hid (KS_step K1.out hb2)
      clear hb2
      obtain ⟨⟨c20, c21, c22⟩, hl2, _⟩ := K2.out
      go_wp2_with fail
      refine (HF.out _).mono ?_
      rintro e w3 ⟨rfl, hb3⟩
      have K3 := Lib.hid (KS_step K2.out hb3)
      clear hb3
      obtain ⟨⟨c30, c31, c32⟩, hl3, _⟩ := K3.out
      go_wp2_with fail
      refine (HA2.out _).mono ?_
      rintro e w4 ⟨rfl, hb4⟩
      have K4 := Lib.hid (KS_step K3.out hb4)
      clear hb4
      obtain ⟨⟨c40, c41, c42⟩, hl4, _⟩ := K4.out
      go_wp2_with fail
      refine (HF2.out _).mono ?_
      rintro e w5 ⟨rfl, hb5⟩
      have K5 := Lib.hid (KS_step K4.out hb5)
      clear hb5
      obtain ⟨⟨c50, c51, c52⟩, hl5, _⟩ := K5.out
      go_wp2_with fail
      refine (HV.out _).mono ?_
      rintro e w6 ⟨rfl, hb6⟩
      have K6 := Lib.hid (KS_step K5.out hb6)
      clear hb6
      obtain ⟨⟨c60, c61, c62⟩, hl6, _⟩ := K6.out
      go_wp2_with fail
      refine (HX.out _).mono ?_
      rintro e w7 ⟨rfl, hb7⟩
      have K7 := Lib.hid (KS_step K6.out hb7)
      clear hb7
      obtain ⟨⟨c70, c71, c72⟩, hl7, _⟩ := K7.out
      go_wp2_with fail
      refine (HY.out _).mono ?_
      rintro e w8 ⟨rfl, hb8⟩
      have K8 := Lib.hid (KS_step (KS_alloc K7.out (.cells #[.int .i64 X, .int .i64 Y, .int .i64 Z] 24)) hb8)
      have J8 := Lib.hid (KS_step (KS_new 24 X Y Z K7.out.2.2) hb8)
      clear hb8
      obtain ⟨⟨c80, c81, c82⟩, hl8, _⟩ := K8.out
      obtain ⟨⟨d80, d81, d82⟩, hm8, _⟩ := J8.out
      go_wp2_with fail
      go_ret
      exact ⟨rfl, K8.out.2.2.alloc K8.out.2.2.size _⟩
  · have h1 : (1048576 : Int) < (n : Int) := by omega
    clear hr
    go_enter Try.func3, Try.ntmps3
    go_wp2_with fail
    go_ret
    exact ⟨rfl, Below.refl _ _⟩
end Nb
end Go.Proofs.Ytaimlfhbcgocnaa
