/- Contracts: the usual form of expressions and of tests. -/
import Derived.Test.YtnhdnfanjefglaaPrs
import Derived.Deep.RegionWith
namespace Go.Proofs.Ytnhdnfanjefglaa.Sw
open Go.RowKit Go.Deep Go.Proofs.Ytnhdnfanjefglaa.Pl Go.Proofs.Ytnhdnfanjefglaa.Bi Go.Proofs.Ytnhdnfanjefglaa.Fi Go.Proofs.Ytnhdnfanjefglaa.Ed Go.Proofs.Ytnhdnfanjefglaa.Ps
set_option linter.unusedVariables false

theorem bs_app (a b : List UInt8) : bs a ++ bs b = bs (a ++ b) := by
  apply ByteArray.ext; simp [bs]
theorem rune_one (b : UInt8) (h : b.toNat < 128) : Utf8.encode (b.toNat : Int) = bs [b] := by
  refine bs_of ?_
  have v : Utf8.valid (b.toNat : Int) = true := by simp [Utf8.valid]; omega
  simp [Utf8.encode, v, h]
/-- The usual form's length. -/
theorem shE_len (b : UInt8) (k : F) : (shE b k).length ≤ 5 * (tx b k).length := by
  have : ∀ n (b : UInt8) (k : F), k.size ≤ n → (shE b k).length ≤ 5 * (tx b k).length := by
    intro n
    induction n with
    | zero =>
      intro b k hk
      cases k with
      | nil => simp [shE_leaf, tx, F.text]
      | node _ _ _ => simp [F.size] at hk
    | succ n ih =>
      intro b k hk
      match k, hk with
      | .nil, _ => simp [shE_leaf, tx, F.text]
      | .node b1 k1 .nil, _ => (simp [shE, F.one, shG, F.cata, tx]; omega)
      | .node b1 k1 (.node b2 k2 .nil), hk =>
        simp only [F.size] at hk
        have h1 := ih b1 k1 (by omega)
        have h2 := ih b2 k2 (by omega)
        rw [shE_two]
        simp only [tx, F.text, List.length_cons, List.length_append, List.length_nil] at h1 h2 ⊢
        omega
      | .node b1 k1 (.node b2 k2 (.node b3 k3 k4)), _ => (simp [shE, F.one, shG, F.cata, tx]; omega)
  exact this _ b k (Nat.le_refl _)
theorem shE_size {b : UInt8} {k : F} {n : Nat} (h : (tx b k).length ≤ n) : (bs (shE b k)).size ≤ 5 * n := by
  have := shE_len b k; rw [bs_size]; omega
theorem shT_len {wide : Bool} (n : Nat) : ∀ (b : UInt8) (k : F), k.size ≤ n → Is wide 1 b k → (shT b k).length ≤ 5 * (tx b k).length := by
  induction n with
  | zero =>
    intro b k hk hi
    rcases is_test hi with ⟨rfl, hb | hb⟩ | ⟨hb, b1, k1, b2, k2, rfl, i1, i2⟩ | ⟨hb, b1, k1, rfl, i1⟩ | ⟨hb, b1, k1, b2, k2, rfl, i1, i2⟩
    · rw [shT_t hb]; simp [tx, F.text]
    · rw [shT_f hb]; simp [tx, F.text]
    · simp [F.size] at hk
    · simp [F.size] at hk
    · simp [F.size] at hk
  | succ n ih =>
    intro b k hk hi
    rcases is_test hi with ⟨rfl, hb | hb⟩ | ⟨hb, b1, k1, b2, k2, rfl, i1, i2⟩ | ⟨hb, b1, k1, rfl, i1⟩ | ⟨hb, b1, k1, b2, k2, rfl, i1, i2⟩
    · rw [shT_t hb]; simp [tx, F.text]
    · rw [shT_f hb]; simp [tx, F.text]
    · have h1 := shE_len b1 k1
      have h2 := shE_len b2 k2
      rw [shT_cmp hb]
      simp only [tx, F.text, List.length_cons, List.length_append, List.length_nil] at h1 h2 ⊢
      omega
    · simp only [F.size] at hk
      have h1 := ih b1 k1 (by omega) i1
      rw [shT_not hb]
      simp only [tx, F.text, List.length_cons, List.length_append, List.length_nil] at h1 ⊢
      omega
    · simp only [F.size] at hk
      have h1 := ih b1 k1 (by omega) i1
      have h2 := ih b2 k2 (by omega) i2
      rw [shT_two hb]
      simp only [tx, F.text, List.length_cons, List.length_append, List.length_nil] at h1 h2 ⊢
      omega
theorem shT_size {wide : Bool} {b : UInt8} {k : F} {n : Nat} (hi : Is wide 1 b k) (h : (tx b k).length ≤ n) : (bs (shT b k)).size ≤ 5 * n := by
  have := shT_len k.size b k (Nat.le_refl _) hi; rw [bs_size]; omega
theorem drewT {w : World} {p : Nat} {b : UInt8} {k : F} (m : Nat) (h : isT w p b k) : isT (w.drewN m) p b k := isT_below (below_drewN (Below.refl _ _) m) h

theorem at_tx {s : ByteArray} {a : Nat} {b : UInt8} {k : F} {r : List UInt8} (h : s.data.toList.drop a = tx b k ++ r) : ∃ hlt : a < s.size, s[a] = b ∧ s.data.toList.drop (a + 1) = k.text ++ r ∧ s.extract a (a + 1) = bs [b] := by
  have hlen := congrArg List.length h
  simp only [List.length_drop, List.length_append, tx, List.length_cons, Array.length_toList] at hlen
  have hz : s.data.size = s.size := rfl
  have hlt : a < s.size := by omega
  have hd := drop_at hlt
  rw [hd] at h
  simp only [tx, List.cons_append, List.cons.injEq] at h
  refine ⟨hlt, h.1, h.2, bs_of ?_⟩
  simp only [ByteArray.data_extract, Array.toList_extract, List.extract_eq_take_drop]
  rw [hd, h.1, show a + 1 - a = 1 by omega]; rfl
theorem at_two {l : List UInt8} {a : Nat} {b1 b2 : UInt8} {k1 k2 : F} {r : List UInt8} (h : l.drop a = (F.node b1 k1 (.node b2 k2 .nil)).text ++ r) :
    l.drop a = tx b1 k1 ++ (tx b2 k2 ++ r) ∧ l.drop (a + (tx b1 k1).length) = tx b2 k2 ++ r := by
  have e : l.drop a = tx b1 k1 ++ (tx b2 k2 ++ r) := by rw [h]; simp [F.text, tx]
  exact ⟨e, by rw [← List.drop_drop, e]; simp⟩
theorem at_one {l : List UInt8} {a : Nat} {b1 : UInt8} {k1 : F} {r : List UInt8} (h : l.drop a = (F.node b1 k1 .nil).text ++ r) : l.drop a = tx b1 k1 ++ r := by
  rw [h]; simp [F.text, tx]
theorem fits_tx {s : ByteArray} {a : Nat} {b : UInt8} {k : F} {r : List UInt8} (h : s.data.toList.drop a = tx b k ++ r) : a + (tx b k).length ≤ s.size := by
  have hlen := congrArg List.length h
  have ht := tx_len b k
  simp only [List.length_drop, List.length_append, Array.length_toList] at hlen
  have hz : s.data.size = s.size := rfl
  omega
theorem leaf_op {wide : Bool} {b : UInt8} (h : (vrB wide b.toNat || dgB b.toNat) = true) : ¬ (b.toNat = 43 ∨ b.toNat = 45 ∨ b.toNat = 42) := by
  intro e
  cases wide <;> simp [vrB, dgB] at h <;> omega
/-- What the function answers. -/
def show0 (s : ByteArray) : ByteArray := if okS false 0 200 s then (match P false [0] s.data.toList with | some (.node b k _, _) => bs (shE b k) | _ => bs []) else bs []
theorem show0_is {b : UInt8} {k : F} (hi : Is false 0 b k) (hok : okS false 0 200 (bs (tx b k)) = true) : show0 (bs (tx b k)) = bs (shE b k) := by
  have := P_is hi []
  rw [List.append_nil] at this
  simp only [show0, hok, bs_list, this]; rfl
theorem show0_no {s : ByteArray} (hok : okS false 0 200 s = false) : show0 s = bs [] := by simp [show0, hok]
/-- What the function answers. -/
def show1 (s : ByteArray) : ByteArray := if okS false 1 200 s then (match P false [1] s.data.toList with | some (.node b k _, _) => bs (shT b k) | _ => bs []) else bs []
theorem show1_is {b : UInt8} {k : F} (hi : Is false 1 b k) (hok : okS false 1 200 (bs (tx b k)) = true) : show1 (bs (tx b k)) = bs (shT b k) := by
  have := P_is hi []
  rw [List.append_nil] at this
  simp only [show1, hok, bs_list, this]; rfl
theorem show1_no {s : ByteArray} (hok : okS false 1 200 s = false) : show1 s = bs [] := by simp [show1, hok]
end Go.Proofs.Ytnhdnfanjefglaa.Sw
