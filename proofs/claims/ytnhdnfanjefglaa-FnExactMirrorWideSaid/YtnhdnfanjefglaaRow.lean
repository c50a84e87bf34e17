/- Rows of bytes in new memory, and the string made of one; the ones of a text of bits. No program in sight. -/
import Derived.WalkKit
import Derived.Below
import Derived.Deep.OwnRows
import Derived.Laws.IdiomStrings
namespace Go.Proofs.Ytnhdnfanjefglaa.Ro
open Go.RowKit

def mk (n : Nat) (g : Nat → UInt8) : ByteArray := ⟨((List.range n).map g).toArray⟩
theorem mk_size (n : Nat) (g : Nat → UInt8) : (mk n g).size = n := by simp [mk, ByteArray.size]
theorem mk_list (n : Nat) (g : Nat → UInt8) : (mk n g).data.toList = (List.range n).map g := by simp [mk]
theorem mk_congr {n : Nat} {g g' : Nat → UInt8} (h : ∀ i, i < n → g i = g' i) : mk n g = mk n g' := by
  unfold mk
  congr 2
  exact List.map_congr_left fun i hi => h i (by simpa using hi)
theorem mk_at (n : Nat) (g : Nat → UInt8) (i : Nat) (h : i < n) : (mk n g).data.toList[i]? = some (g i) := by simp [mk_list, h]
theorem mk_get (n : Nat) (g : Nat → UInt8) (i : Nat) (h : i < (mk n g).size) : (mk n g)[i] = g i := by
  have h' : i < n := by simpa [mk_size] using h
  have := mk_at n g i h'
  rw [List.getElem?_eq_getElem (by simpa [mk_list] using h')] at this
  exact Option.some.inj this

theorem run_string_of_row {P : Program} {w : World} {src dst e : TypeId} (hs : P.underlying src = some (.slice e)) (he : P.underlying e = some (.int .u8)) (hd : P.underlying dst = some .string)
    {b t n cap : Nat} {g : Nat → UInt8} (h : w.rowIs b t n (fun i => .int .u8 (g i).toNat)) :
    (convert src dst (.slice (some ⟨b, 0, none⟩) n cap)).run P w = .ok (.string (mk n g)) w := by
  have hr := run_convert_bytes_back (P := P) w src dst e ⟨b, 0, none⟩ cap ((List.range n).map g) hs he hd (fun j hj => by
    have hj' : j < n := by simpa using hj
    have := h.cell hj'
    have e : (⟨b, 0, none⟩ : Addr).add j = ⟨b, j, none⟩ := by unfold Addr.add; split <;> simp_all
    rw [e]
    simpa using this)
  simpa [mk] using hr

/-- The byte of a bit. -/
def bt (x : Bool) : UInt8 := if x then 49 else 48
theorem bt_true : bt true = 49 := rfl
theorem bt_false : bt false = 48 := rfl
/-- Is the i-th byte a '1'? -/
def one (s : ByteArray) (i : Nat) : Bool := s.data.toList[i]? == some 49
theorem one_at {s : ByteArray} {k : Nat} (h : k < s.size) : one s k = (s[k].toNat == 49) := by
  unfold one
  rw [List.getElem?_eq_getElem (by simpa using h)]
  have e : s.data.toList[k]'(by simpa using h) = s[k] := rfl
  rw [e, Bool.eq_iff_iff]
  simp only [beq_iff_eq, Option.some.injEq]
  exact ⟨fun h => by rw [h]; rfl, fun h => UInt8.toNat_inj.1 h⟩
theorem one_true {s : ByteArray} {k : Nat} (h : k < s.size) (h9 : s[k].toNat = 49) : one s k = true := by rw [one_at h, h9]; rfl
theorem one_false {s : ByteArray} {k : Nat} (h : k < s.size) (h9 : ¬ s[k].toNat = 49) : one s k = false := by rw [one_at h]; exact beq_eq_false_iff_ne.2 h9
/-- A text of bits is that of its ones. -/
theorem eq_mk {s : ByteArray} (h : ∀ k (hk : k < s.size), s[k].toNat = 48 ∨ s[k].toNat = 49) : s = mk s.size fun i => bt (one s i) := by
  have : s.data.toList = (mk s.size fun i => bt (one s i)).data.toList := by
    rw [mk_list]
    apply List.ext_getElem?
    intro i
    by_cases hi : i < s.size
    · rw [List.getElem?_eq_getElem (by simpa using hi)]
      have e : s.data.toList[i]'(by simpa using hi) = s[i] := rfl
      rw [e]
      simp only [List.getElem?_map, List.getElem?_range hi, Option.map_some]
      rw [one_at hi]
      congr 1
      rcases h i hi with h8 | h9
      · rw [h8]; exact UInt8.toNat_inj.1 (by rw [h8]; rfl)
      · rw [h9]; exact UInt8.toNat_inj.1 (by rw [h9]; rfl)
    · rw [List.getElem?_eq_none (by simpa using hi), List.getElem?_eq_none (by simpa using hi)]
  cases s
  simp only [mk, ByteArray.mk.injEq] at this ⊢
  exact Array.toList_inj.1 (by simpa [mk] using this)
theorem mk_inj {n : Nat} {g g' : Nat → UInt8} (h : mk n g = mk n g') {i : Nat} (hi : i < n) : g i = g' i := by
  have := congrArg (fun s : ByteArray => s.data.toList[i]?) h
  simpa [mk_list, hi] using this
theorem bt_inj {x y : Bool} (h : bt x = bt y) : x = y := by cases x <;> cases y <;> simp_all [bt]
theorem one_mk {n : Nat} {f : Nat → Bool} {i : Nat} (hi : i < n) : one (mk n fun i => bt (f i)) i = f i := by
  unfold one
  rw [mk_at n _ i hi]
  cases f i <;> decide

/-- All bits of one text are in another one. -/
def withinB (p q : ByteArray) : Bool := (List.range p.size).all fun i => !(one p i && !one q i)
theorem within_yes {p q : ByteArray} (h : ∀ i, i < p.size → ¬ (one p i = true ∧ one q i = false)) : withinB p q = true := by
  unfold withinB
  rw [List.all_eq_true]
  intro i hi
  have := h i (by simpa using hi)
  cases hp : one p i <;> cases hq : one q i <;> simp_all
theorem within_no {p q : ByteArray} {i : Nat} (hi : i < p.size) (hp : one p i = true) (hq : one q i = false) : withinB p q = false := by
  unfold withinB
  rw [List.all_eq_false]
  exact ⟨i, by simpa using hi, by simp [hp, hq]⟩
theorem within_and {p q : ByteArray} (h : ∀ k (hk : k < p.size), p[k].toNat = 48 ∨ p[k].toNat = 49) : ((mk p.size fun i => bt (one p i && one q i)).toList == p.toList) = withinB p q := by
  rw [ByteArray.toList_eq, ByteArray.toList_eq]
  cases hw : withinB p q with
  | true =>
    rw [beq_iff_eq]
    conv => rhs; rw [eq_mk h]
    rw [mk_congr]
    intro i hi
    congr 1
    have := List.all_eq_true.1 hw i (by simpa using hi)
    cases hp : one p i <;> cases hq : one q i <;> simp_all
  | false =>
    rw [beq_eq_false_iff_ne]
    intro he
    have h2 : mk p.size (fun i => bt (one p i && one q i)) = mk p.size fun i => bt (one p i) := by
      rw [← eq_mk h]
      generalize mk p.size (fun i => bt (one p i && one q i)) = s at he
      cases s; cases p
      simp at he
      simpa using he
    have : withinB p q = true := by
      apply within_yes
      intro i hi ⟨hp, hq⟩
      have := bt_inj (mk_inj h2 hi)
      simp [hp, hq] at this
    rw [this] at hw
    cases hw
end Go.Proofs.Ytnhdnfanjefglaa.Ro
