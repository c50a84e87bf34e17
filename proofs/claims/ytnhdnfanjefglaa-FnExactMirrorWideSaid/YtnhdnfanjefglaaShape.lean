/- Plain law: what is computed of a forest, member by member; the shapes of expressions, tests and programs. No program in sight. -/
import Derived.Test.YtnhdnfanjefglaaForest
namespace Go.Proofs.Ytnhdnfanjefglaa.Pl

/-- What is computed of each member out of what is computed of its parts. -/
def F.cata {α : Type} (g : UInt8 → F → List α → α) : F → List α
  | .nil => []
  | .node b k n => g b k (k.cata g) :: n.cata g

def F.one {α : Type} (g : UInt8 → F → List α → α) (b : UInt8) (k : F) : α := g b k (k.cata g)
theorem cata_node {α : Type} (g : UInt8 → F → List α → α) (b : UInt8) (k n : F) : (F.node b k n).cata g = F.one g b k :: n.cata g := rfl
theorem cata_nil {α : Type} (g : UInt8 → F → List α → α) : F.nil.cata g = [] := rfl

def tx (b : UInt8) (k : F) : List UInt8 := b :: k.text
theorem text_node (b : UInt8) (k n : F) : (F.node b k n).text = tx b k ++ n.text := by simp [F.text, tx]
theorem text_one (b : UInt8) (k : F) : (F.node b k .nil).text = tx b k := by simp [F.text, tx]
theorem tx_ne (b : UInt8) (k : F) : tx b k ≠ [] := by simp [tx]
theorem tx_len (b : UInt8) (k : F) : (tx b k).length = k.text.length + 1 := by simp [tx]

/-- A node is a text of a sort. -/
def Is (wide : Bool) (s : Nat) (b : UInt8) (k : F) : Prop := ∃ ks, wants wide s b.toNat = some ks ∧ k.ok wide ks = true

theorem ok_cons {wide : Bool} {s : Nat} {ws : List Nat} {t : F} (h : t.ok wide (s :: ws) = true) : ∃ b k n, t = .node b k n ∧ Is wide s b k ∧ n.ok wide ws = true := by
  cases t with
  | nil => simp [F.ok] at h
  | node b k n =>
    simp only [F.ok] at h
    cases hw : wants wide s b.toNat with
    | none => simp [hw] at h
    | some ks => simp [hw] at h; exact ⟨b, k, n, rfl, ⟨ks, hw, h.1⟩, h.2⟩
theorem ok_nil {wide : Bool} {t : F} (h : t.ok wide [] = true) : t = .nil := by
  cases t with
  | nil => rfl
  | node b k n => simp [F.ok] at h
theorem ok_node {wide : Bool} {s : Nat} {ws : List Nat} {b : UInt8} {k n : F} (h : Is wide s b k) (hn : n.ok wide ws = true) : (F.node b k n).ok wide (s :: ws) = true := by
  obtain ⟨ks, hw, hk⟩ := h
  simp [F.ok, hw, hk, hn]
theorem P_is {wide : Bool} {s : Nat} {b : UInt8} {k : F} (h : Is wide s b k) (r : List UInt8) : P wide [s] (tx b k ++ r) = some (.node b k .nil, r) := by
  have := P_ok wide (.node b k .nil) [s] r (ok_node h rfl)
  rwa [text_one] at this
theorem P_some {wide : Bool} {s : Nat} {l : List UInt8} {t : F} {r : List UInt8} (h : P wide [s] l = some (t, r)) : ∃ b k, t = .node b k .nil ∧ Is wide s b k ∧ l = tx b k ++ r := by
  obtain ⟨b, k, n, rfl, hi, hn⟩ := ok_cons (ok_of_P h)
  obtain rfl := ok_nil hn
  exact ⟨b, k, rfl, hi, by rw [P_text h, text_one]⟩

/-- Where a text that stands at an index ends. -/
theorem ends_is {wide : Bool} {s : Nat} {b : UInt8} {k : F} (h : Is wide s b k) {l r : List UInt8} {a : Nat} (hd : l.drop a = tx b k ++ r) : ends wide [s] l a = a + (tx b k).length := by
  have hlen := congrArg List.length hd
  simp only [List.length_drop, List.length_append] at hlen
  have ht := tx_len b k
  unfold ends
  rw [if_neg (by omega), Int.toNat_natCast, hd, P_is h]
  simp only
  omega
/-- A whole text of a sort. -/
theorem ends_whole {wide : Bool} {s : Nat} {l : List UInt8} (h : ends wide [s] l 0 = l.length) : ∃ b k, Is wide s b k ∧ l = tx b k := by
  unfold ends at h
  split at h
  · omega
  · split at h
    · omega
    · rename_i t r hp
      have : r = [] := List.length_eq_zero_iff.1 (by omega)
      subst this
      obtain ⟨b, k, rfl, hi, hl⟩ := P_some hp
      exact ⟨b, k, hi, by simpa using hl⟩
theorem whole_ends {wide : Bool} {s : Nat} {b : UInt8} {k : F} (h : Is wide s b k) : ends wide [s] (tx b k) 0 = (tx b k).length := by
  have := ends_is h (l := tx b k) (r := []) (a := 0) (by simp)
  simpa using this

theorem ends_nil (wide : Bool) (l : List UInt8) (a : Nat) (h : a ≤ l.length) : ends wide [] l a = a := by
  unfold ends
  rw [if_neg (by omega), Int.toNat_natCast, P_nil]
  simp only [List.length_drop]
  omega
/-- A text of a sort that begins at an index: by its first byte. -/
theorem ends_step (wide : Bool) (s : Nat) (l : List UInt8) (k : Nat) (c : UInt8) (hc : l[k]? = some c) :
    ends wide [s] l k = match wants wide s c.toNat with | none => -1 | some ks => ends wide ks l ((k : Int) + 1) := by
  have hk : k < l.length := (List.getElem?_eq_some_iff.1 hc).1
  have hd : l.drop k = c :: l.drop (k + 1) := by
    have := (List.getElem?_eq_some_iff.1 hc).2
    rw [← this]; exact List.drop_eq_getElem_cons hk
  unfold ends
  rw [if_neg (by omega), Int.toNat_natCast, hd, P_cons]
  cases wants wide s c.toNat with
  | none => rfl
  | some ks =>
    simp only
    rw [if_neg (by omega), show ((k : Int) + 1).toNat = k + 1 by omega]
    cases P wide ks (l.drop (k + 1)) with
    | none => rfl
    | some x => obtain ⟨t, r⟩ := x; simp [P_nil]
theorem ends_past (wide : Bool) (s : Nat) (ws : List Nat) (l : List UInt8) : ends wide (s :: ws) l l.length = -1 := by
  unfold ends
  rw [if_neg (by omega), Int.toNat_natCast, List.drop_of_length_le (Nat.le_refl _), P_end]

theorem is_expr {wide : Bool} {b : UInt8} {k : F} (h : Is wide 0 b k) :
    (k = .nil ∧ (vrB wide b.toNat || dgB b.toNat) = true) ∨
    ((vrB wide b.toNat || dgB b.toNat) = false ∧ (b.toNat = 43 ∨ b.toNat = 45 ∨ b.toNat = 42) ∧ ∃ b1 k1 b2 k2, k = .node b1 k1 (.node b2 k2 .nil) ∧ Is wide 0 b1 k1 ∧ Is wide 0 b2 k2) := by
  obtain ⟨ks, hw, hk⟩ := h
  simp only [wants] at hw
  split at hw
  · rename_i hv; cases hw; exact .inl ⟨ok_nil hk, hv⟩
  · rename_i hv
    split at hw
    · rename_i ho
      cases hw
      obtain ⟨b1, k1, n1, rfl, i1, hk⟩ := ok_cons hk
      obtain ⟨b2, k2, n2, rfl, i2, hk⟩ := ok_cons hk
      obtain rfl := ok_nil hk
      exact .inr ⟨by simpa using hv, ho, b1, k1, b2, k2, rfl, i1, i2⟩
    · cases hw
theorem is_var {wide : Bool} {b : UInt8} {k : F} (h : Is wide 3 b k) : k = .nil ∧ vrB wide b.toNat = true := by
  obtain ⟨ks, hw, hk⟩ := h
  simp only [wants] at hw
  split at hw
  · rename_i hv; cases hw; exact ⟨ok_nil hk, hv⟩
  · cases hw
theorem is_test {wide : Bool} {b : UInt8} {k : F} (h : Is wide 1 b k) :
    (k = .nil ∧ (b.toNat = 116 ∨ b.toNat = 102)) ∨
    ((b.toNat = 61 ∨ b.toNat = 60) ∧ ∃ b1 k1 b2 k2, k = .node b1 k1 (.node b2 k2 .nil) ∧ Is wide 0 b1 k1 ∧ Is wide 0 b2 k2) ∨
    (b.toNat = 33 ∧ ∃ b1 k1, k = .node b1 k1 .nil ∧ Is wide 1 b1 k1) ∨
    ((b.toNat = 38 ∨ b.toNat = 124) ∧ ∃ b1 k1 b2 k2, k = .node b1 k1 (.node b2 k2 .nil) ∧ Is wide 1 b1 k1 ∧ Is wide 1 b2 k2) := by
  obtain ⟨ks, hw, hk⟩ := h
  simp only [wants] at hw
  split at hw
  · rename_i hv; cases hw; exact .inl ⟨ok_nil hk, hv⟩
  · split at hw
    · rename_i ho
      cases hw
      obtain ⟨b1, k1, n1, rfl, i1, hk⟩ := ok_cons hk
      obtain ⟨b2, k2, n2, rfl, i2, hk⟩ := ok_cons hk
      obtain rfl := ok_nil hk
      exact .inr (.inl ⟨ho, b1, k1, b2, k2, rfl, i1, i2⟩)
    · split at hw
      · rename_i ho
        cases hw
        obtain ⟨b1, k1, n1, rfl, i1, hk⟩ := ok_cons hk
        obtain rfl := ok_nil hk
        exact .inr (.inr (.inl ⟨ho, b1, k1, rfl, i1⟩))
      · split at hw
        · rename_i ho
          cases hw
          obtain ⟨b1, k1, n1, rfl, i1, hk⟩ := ok_cons hk
          obtain ⟨b2, k2, n2, rfl, i2, hk⟩ := ok_cons hk
          obtain rfl := ok_nil hk
          exact .inr (.inr (.inr ⟨ho, b1, k1, b2, k2, rfl, i1, i2⟩))
        · cases hw
theorem is_prog {wide : Bool} {b : UInt8} {k : F} (h : Is wide 2 b k) :
    (k = .nil ∧ b.toNat = 115) ∨
    (b.toNat = 97 ∧ ∃ b1 b2 k2, k = .node b1 .nil (.node b2 k2 .nil) ∧ vrB wide b1.toNat = true ∧ Is wide 0 b2 k2) ∨
    ((b.toNat = 59 ∨ b.toNat = 47) ∧ ∃ b1 k1 b2 k2, k = .node b1 k1 (.node b2 k2 .nil) ∧ Is wide 2 b1 k1 ∧ Is wide 2 b2 k2) ∨
    (b.toNat = 63 ∧ ∃ b0 k0 b1 k1 b2 k2, k = .node b0 k0 (.node b1 k1 (.node b2 k2 .nil)) ∧ Is wide 1 b0 k0 ∧ Is wide 2 b1 k1 ∧ Is wide 2 b2 k2) ∨
    (b.toNat = 64 ∧ ∃ b0 k0 b1 k1, k = .node b0 k0 (.node b1 k1 .nil) ∧ Is wide 1 b0 k0 ∧ Is wide 2 b1 k1) ∨
    (b.toNat = 126 ∧ ∃ b0 k0, k = .node b0 k0 .nil ∧ Is wide 1 b0 k0) := by
  obtain ⟨ks, hw, hk⟩ := h
  simp only [wants] at hw
  split at hw
  · rename_i hv; cases hw; exact .inl ⟨ok_nil hk, hv⟩
  · split at hw
    · rename_i ho
      cases hw
      obtain ⟨b1, k1, n1, rfl, i1, hk⟩ := ok_cons hk
      obtain ⟨b2, k2, n2, rfl, i2, hk⟩ := ok_cons hk
      obtain rfl := ok_nil hk
      obtain ⟨rfl, hv⟩ := is_var i1
      exact .inr (.inl ⟨ho, b1, b2, k2, rfl, hv, i2⟩)
    · split at hw
      · rename_i ho
        cases hw
        obtain ⟨b1, k1, n1, rfl, i1, hk⟩ := ok_cons hk
        obtain ⟨b2, k2, n2, rfl, i2, hk⟩ := ok_cons hk
        obtain rfl := ok_nil hk
        exact .inr (.inr (.inl ⟨ho, b1, k1, b2, k2, rfl, i1, i2⟩))
      · split at hw
        · rename_i ho
          cases hw
          obtain ⟨b0, k0, n0, rfl, i0, hk⟩ := ok_cons hk
          obtain ⟨b1, k1, n1, rfl, i1, hk⟩ := ok_cons hk
          obtain ⟨b2, k2, n2, rfl, i2, hk⟩ := ok_cons hk
          obtain rfl := ok_nil hk
          exact .inr (.inr (.inr (.inl ⟨ho, b0, k0, b1, k1, b2, k2, rfl, i0, i1, i2⟩)))
        · split at hw
          · rename_i ho
            cases hw
            obtain ⟨b0, k0, n0, rfl, i0, hk⟩ := ok_cons hk
            obtain ⟨b1, k1, n1, rfl, i1, hk⟩ := ok_cons hk
            obtain rfl := ok_nil hk
            exact .inr (.inr (.inr (.inr (.inl ⟨ho, b0, k0, b1, k1, rfl, i0, i1⟩))))
          · split at hw
            · rename_i ho
              cases hw
              obtain ⟨b0, k0, n0, rfl, i0, hk⟩ := ok_cons hk
              obtain rfl := ok_nil hk
              exact .inr (.inr (.inr (.inr (.inr ⟨ho, b0, k0, rfl, i0⟩))))
            · cases hw

/-! ### Values -/
def slotOf (b : Nat) : Nat := if 120 ≤ b then b - 120 else b - 88 + 3
def valG (env : Nat → Int) (b : UInt8) (_ : F) (vs : List Int) : Int :=
  if dgB b.toNat then (b.toNat : Int) - 48 else
  match vs with
  | [x, y] => if b.toNat = 43 then (x + y) % 3 else if b.toNat = 45 then (x - y + 3) % 3 else x * y % 3
  | _ => env (slotOf b.toNat)
def val (env : Nat → Int) (b : UInt8) (k : F) : Int := F.one (valG env) b k

theorem val_range (env : Nat → Int) (henv : ∀ i, 0 ≤ env i ∧ env i ≤ 2) (b : UInt8) (k : F) : 0 ≤ val env b k ∧ val env b k ≤ 2 := by
  unfold val F.one valG
  split
  · rename_i h; simp [dgB] at h; omega
  · split
    · (repeat' split) <;> omega
    · exact henv _
end Go.Proofs.Ytnhdnfanjefglaa.Pl
