/- Plain law: the texts of chapter 1 and 3 as forests; the parse, its text, and what is computed of it. No program in sight. -/
namespace Go.Proofs.Ytnhdnfanjefglaa.Pl

inductive F where
  | nil : F
  | node (b : UInt8) (k n : F) : F

def F.text : F → List UInt8
  | .nil => []
  | .node b k n => b :: (k.text ++ n.text)

def F.size : F → Nat
  | .nil => 0
  | .node _ k n => k.size + n.size + 1

def F.len : F → Nat
  | .nil => 0
  | .node _ _ n => n.len + 1

theorem F.length_text : ∀ t : F, t.text.length = t.size
  | .nil => rfl
  | .node b k n => by simp [F.text, F.size, F.length_text k, F.length_text n]

def vrB (wide : Bool) (b : Nat) : Bool := (decide (120 ≤ b) && decide (b ≤ 122)) || (wide && decide (88 ≤ b) && decide (b ≤ 90))
def dgB (b : Nat) : Bool := decide (48 ≤ b) && decide (b ≤ 50)

def wants (wide : Bool) : Nat → Nat → Option (List Nat)
  | 0, b => if vrB wide b || dgB b then some [] else if b = 43 ∨ b = 45 ∨ b = 42 then some [0, 0] else none
  | 1, b => if b = 116 ∨ b = 102 then some [] else if b = 61 ∨ b = 60 then some [0, 0] else if b = 33 then some [1] else if b = 38 ∨ b = 124 then some [1, 1] else none
  | 2, b => if b = 115 then some [] else if b = 97 then some [3, 0] else if b = 59 ∨ b = 47 then some [2, 2] else if b = 63 then some [1, 2, 2] else if b = 64 then some [1, 2]
      else if b = 126 then some [1] else none
  | _, b => if vrB wide b then some [] else none

def rd (wide : Bool) : Nat → List Nat → List UInt8 → Option (F × List UInt8)
  | _, [], l => some (.nil, l)
  | 0, _ :: _, _ => none
  | _ + 1, _ :: _, [] => none
  | f + 1, s :: ws, b :: l =>
    match wants wide s b.toNat with
    | none => none
    | some ks =>
      match rd wide f ks l with
      | none => none
      | some (k, l1) =>
        match rd wide f ws l1 with
        | none => none
        | some (n, l2) => some (.node b k n, l2)

theorem rd_nil (wide : Bool) (f : Nat) (l : List UInt8) : rd wide f [] l = some (.nil, l) := by cases f <;> rfl

theorem rd_len (wide : Bool) : ∀ f ws l t r, rd wide f ws l = some (t, r) → l = t.text ++ r := by
  intro f
  induction f with
  | zero =>
    intro ws l t r h
    cases ws with
    | nil => simp [rd] at h; obtain ⟨rfl, rfl⟩ := h; rfl
    | cons s ws => simp [rd] at h
  | succ f ih =>
    intro ws l t r h
    cases ws with
    | nil => simp [rd] at h; obtain ⟨rfl, rfl⟩ := h; rfl
    | cons s ws =>
      cases l with
      | nil => simp [rd] at h
      | cons b l =>
        simp only [rd] at h
        split at h
        · cases h
        · split at h
          · cases h
          · rename_i k l1 hk
            split at h
            · cases h
            · rename_i n l2 hn
              simp at h; obtain ⟨rfl, rfl⟩ := h
              rw [ih _ _ _ _ hk, ih _ _ _ _ hn]
              simp [F.text]

theorem rd_fuel (wide : Bool) : ∀ f f' ws l, l.length ≤ f → l.length ≤ f' → rd wide f ws l = rd wide f' ws l := by
  intro f
  induction f with
  | zero =>
    intro f' ws l h h'
    have : l = [] := List.length_eq_zero_iff.1 (by omega)
    subst this
    cases ws with
    | nil => simp [rd_nil]
    | cons s ws => cases f' <;> simp [rd]
  | succ f ih =>
    intro f' ws l h h'
    cases ws with
    | nil => simp [rd_nil]
    | cons s ws =>
      cases l with
      | nil => cases f' <;> simp [rd]
      | cons b l =>
        cases f' with
        | zero => simp at h'
        | succ f' =>
          simp at h h'
          simp only [rd]
          cases wants wide s b.toNat with
          | none => rfl
          | some ks =>
            simp only
            rw [ih f' ks l (by omega) (by omega)]
            cases hk : rd wide f' ks l with
            | none => rfl
            | some x =>
              obtain ⟨k, l1⟩ := x
              simp only
              have hl := rd_len wide _ _ _ _ _ hk
              have : l1.length ≤ l.length := by rw [hl]; simp
              rw [ih f' ws l1 (by omega) (by omega)]

/-- The parse of so many texts of the given sorts, and what is left. -/
def P (wide : Bool) (ws : List Nat) (l : List UInt8) : Option (F × List UInt8) := rd wide l.length ws l

theorem P_nil (wide : Bool) (l : List UInt8) : P wide [] l = some (.nil, l) := rd_nil _ _ _
theorem P_end (wide : Bool) (s : Nat) (ws : List Nat) : P wide (s :: ws) [] = none := rfl
theorem P_cons (wide : Bool) (s : Nat) (ws : List Nat) (b : UInt8) (l : List UInt8) :
    P wide (s :: ws) (b :: l) =
      match wants wide s b.toNat with
      | none => none
      | some ks =>
        match P wide ks l with
        | none => none
        | some (k, l1) =>
          match P wide ws l1 with
          | none => none
          | some (n, l2) => some (.node b k n, l2) := by
  unfold P
  simp only [List.length_cons, rd]
  cases wants wide s b.toNat with
  | none => rfl
  | some ks =>
    simp only
    cases hk : rd wide l.length ks l with
    | none => rfl
    | some x =>
      obtain ⟨k, l1⟩ := x
      simp only
      have hl := rd_len wide _ _ _ _ _ hk
      have : l1.length ≤ l.length := by rw [hl]; simp
      rw [rd_fuel wide l.length l1.length ws l1 this (Nat.le_refl _)]
theorem P_text {wide : Bool} {ws : List Nat} {l : List UInt8} {t : F} {r : List UInt8} (h : P wide ws l = some (t, r)) : l = t.text ++ r := rd_len _ _ _ _ _ _ h

def F.ok (wide : Bool) : List Nat → F → Bool
  | [], .nil => true
  | s :: ws, .node b k n => match wants wide s b.toNat with
    | none => false
    | some ks => F.ok wide ks k && F.ok wide ws n
  | _, _ => false

theorem P_ok (wide : Bool) : ∀ (t : F) (ws : List Nat) (r : List UInt8), t.ok wide ws = true → P wide ws (t.text ++ r) = some (t, r) := by
  intro t
  induction t with
  | nil =>
    intro ws r h
    cases ws with
    | nil => simp [F.text, P_nil]
    | cons s ws => simp [F.ok] at h
  | node b k n ihk ihn =>
    intro ws r h
    cases ws with
    | nil => simp [F.ok] at h
    | cons s ws =>
      simp only [F.ok] at h
      cases hw : wants wide s b.toNat with
      | none => simp [hw] at h
      | some ks =>
        simp [hw] at h
        simp only [F.text, List.cons_append, List.append_assoc]
        rw [P_cons, hw]
        simp only
        rw [ihk ks _ h.1]
        simp only
        rw [ihn ws r h.2]

theorem ok_of_rd (wide : Bool) : ∀ f ws l t r, rd wide f ws l = some (t, r) → t.ok wide ws = true := by
  intro f
  induction f with
  | zero =>
    intro ws l t r h
    cases ws with
    | nil => simp [rd] at h; obtain ⟨rfl, rfl⟩ := h; rfl
    | cons s ws => simp [rd] at h
  | succ f ih =>
    intro ws l t r h
    cases ws with
    | nil => simp [rd] at h; obtain ⟨rfl, rfl⟩ := h; rfl
    | cons s ws =>
      cases l with
      | nil => simp [rd] at h
      | cons b l =>
        simp only [rd] at h
        split at h
        · cases h
        · rename_i ks hw
          split at h
          · cases h
          · rename_i k l1 hk
            split at h
            · cases h
            · rename_i n l2 hn
              simp at h; obtain ⟨rfl, rfl⟩ := h
              simp [F.ok, hw, ih _ _ _ _ hk, ih _ _ _ _ hn]
theorem ok_of_P {wide : Bool} {ws : List Nat} {l : List UInt8} {t : F} {r : List UInt8} (h : P wide ws l = some (t, r)) : t.ok wide ws = true := ok_of_rd _ _ _ _ _ _ h

/-- One text is one node. -/
theorem P_one {wide : Bool} {s : Nat} {l : List UInt8} {t : F} {r : List UInt8} (h : P wide [s] l = some (t, r)) : ∃ b k, t = .node b k .nil := by
  have := ok_of_P h
  cases t with
  | nil => simp [F.ok] at this
  | node b k n =>
    simp only [F.ok] at this
    cases hw : wants wide s b.toNat with
    | none => simp [hw] at this
    | some ks =>
      simp [hw] at this
      cases n with
      | nil => exact ⟨b, k, rfl⟩
      | node _ _ _ => simp [F.ok] at this

/-- Where the texts of the given sorts that begin at an index end, or -1. -/
def ends (wide : Bool) (ws : List Nat) (l : List UInt8) (at_ : Int) : Int :=
  if at_ < 0 ∨ (l.length : Int) < at_ then -1 else
  match P wide ws (l.drop at_.toNat) with
  | none => -1
  | some (_, r) => (l.length : Int) - r.length

theorem ends_neg {wide : Bool} {ws : List Nat} {l : List UInt8} {a : Int} (h : a < 0) : ends wide ws l a = -1 := by simp [ends, h]

theorem ends_cons (wide : Bool) (s : Nat) (ws : List Nat) (l : List UInt8) (a : Int) : ends wide (s :: ws) l a = ends wide ws l (ends wide [s] l a) := by
  by_cases h : a < 0 ∨ (l.length : Int) < a
  · rw [show ends wide [s] l a = -1 by simp only [ends, if_pos h], ends_neg (a := -1) (by omega)]; simp only [ends, if_pos h]
  · have h' := h
    simp only [not_or, Int.not_lt] at h
    obtain ⟨n, rfl⟩ := Int.eq_ofNat_of_zero_le h.1
    have hn : n ≤ l.length := by omega
    simp only [ends, if_neg h', Int.toNat_natCast]
    cases hl : l.drop n with
    | nil => simp [P_end]
    | cons b m =>
      rw [P_cons, P_cons]
      cases hw : wants wide s b.toNat with
      | none => simp
      | some ks =>
        simp only
        cases hk : P wide ks m with
        | none => simp
        | some x =>
          obtain ⟨k, l1⟩ := x
          simp only [P_nil]
          have ht := P_text hk
          have hlen : l.length = n + (m.length + 1) := by
            have := congrArg List.length hl
            simp at this; omega
          have hm : m.length = k.text.length + l1.length := by rw [ht]; simp
          have hd : l.drop (l.length - l1.length) = l1 := by
            have : l.drop (l.length - l1.length) = (l.drop n).drop (1 + k.text.length) := by
              rw [List.drop_drop]; congr 1; omega
            rw [this, hl, ht]
            rw [show 1 + k.text.length = k.text.length + 1 by omega, List.drop_succ_cons]
            simp
          have hc : ((l.length : Int) - (l1.length : Int)).toNat = l.length - l1.length := by omega
          rw [if_neg (by omega), hc, hd]
          cases P wide ws l1 with
          | none => rfl
          | some y => rfl

theorem ends_range (wide : Bool) (ws : List Nat) (l : List UInt8) (a : Int) (ha : a ≤ l.length) : ends wide ws l a = -1 ∨ (a ≤ ends wide ws l a ∧ 0 ≤ a ∧ ends wide ws l a ≤ l.length) := by
  unfold ends
  split
  · exact .inl rfl
  · rename_i h
    split
    · exact .inl rfl
    · rename_i t r hp
      have ht := P_text hp
      have : (l.drop a.toNat).length = t.text.length + r.length := by rw [ht]; simp
      simp at this
      right; omega
end Go.Proofs.Ytnhdnfanjefglaa.Pl
