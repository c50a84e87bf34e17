/- Plain law: truth, the usual form, folding, statements of programs. No program in sight. -/
import Derived.Test.YtnhdnfanjefglaaShape
namespace Go.Proofs.Ytnhdnfanjefglaa.Pl

/-! ### The usual form -/
def shG (b : UInt8) (_ : F) (vs : List (List UInt8)) : List UInt8 :=
  match vs with
  | [x, y] => [40] ++ x ++ [b] ++ y ++ [41]
  | _ => [b]
def shE (b : UInt8) (k : F) : List UInt8 := F.one shG b k
theorem shE_leaf (b : UInt8) : shE b .nil = [b] := rfl
theorem shE_two (b b1 : UInt8) (k1 : F) (b2 : UInt8) (k2 : F) : shE b (.node b1 k1 (.node b2 k2 .nil)) = [40] ++ shE b1 k1 ++ [b] ++ shE b2 k2 ++ [41] := rfl

def shTG (b : UInt8) (k : F) (vs : List (List UInt8)) : List UInt8 :=
  if b.toNat = 116 then [116, 114, 117, 101] else if b.toNat = 102 then [102, 97, 108, 115, 101] else
  if b.toNat = 61 ∨ b.toNat = 60 then (match k.cata shG with | [x, y] => x ++ [b] ++ y | _ => []) else
  match vs with
  | [x] => [33, 40] ++ x ++ [41]
  | [x, y] => [40] ++ x ++ [b] ++ y ++ [41]
  | _ => []
def shT (b : UInt8) (k : F) : List UInt8 := F.one shTG b k
theorem shT_t {b : UInt8} (h : b.toNat = 116) (k : F) : shT b k = [116, 114, 117, 101] := by simp [shT, F.one, shTG, h]
theorem shT_f {b : UInt8} (h : b.toNat = 102) (k : F) : shT b k = [102, 97, 108, 115, 101] := by simp [shT, F.one, shTG, h]
theorem shT_cmp {b : UInt8} (h : b.toNat = 61 ∨ b.toNat = 60) (b1 : UInt8) (k1 : F) (b2 : UInt8) (k2 : F) : shT b (.node b1 k1 (.node b2 k2 .nil)) = shE b1 k1 ++ [b] ++ shE b2 k2 := by
  have h1 : ¬ b.toNat = 116 := by omega
  have h2 : ¬ b.toNat = 102 := by omega
  simp [shT, F.one, shTG, h, h1, h2, F.cata, shE]
theorem shT_not {b : UInt8} (h : b.toNat = 33) (b1 : UInt8) (k1 : F) : shT b (.node b1 k1 .nil) = [33, 40] ++ shT b1 k1 ++ [41] := by
  simp [shT, F.one, shTG, h, F.cata]
theorem shT_two {b : UInt8} (h : b.toNat = 38 ∨ b.toNat = 124) (b1 : UInt8) (k1 : F) (b2 : UInt8) (k2 : F) : shT b (.node b1 k1 (.node b2 k2 .nil)) = [40] ++ shT b1 k1 ++ [b] ++ shT b2 k2 ++ [41] := by
  have h1 : ¬ b.toNat = 116 := by omega
  have h2 : ¬ b.toNat = 102 := by omega
  have h3 : ¬ (b.toNat = 61 ∨ b.toNat = 60) := by omega
  simp [shT, F.one, shTG, h1, h2, h3, F.cata]

/-! ### Truth -/
def truG (env : Nat → Int) (b : UInt8) (k : F) (vs : List Bool) : Bool :=
  if b.toNat = 116 then true else if b.toNat = 102 then false else
  if b.toNat = 61 then (match k.cata (valG env) with | [x, y] => decide (x = y) | _ => false) else
  if b.toNat = 60 then (match k.cata (valG env) with | [x, y] => decide (x < y) | _ => false) else
  match vs with
  | [x] => !x
  | [x, y] => if b.toNat = 38 then x && y else x || y
  | _ => false
def tru (env : Nat → Int) (b : UInt8) (k : F) : Bool := F.one (truG env) b k

/-! ### Values, step by step -/
theorem val_leaf_var {env : Nat → Int} {b : UInt8} (h : dgB b.toNat = false) : val env b .nil = env (slotOf b.toNat) := by simp [val, F.one, valG, h, F.cata]
theorem val_leaf_dig {env : Nat → Int} {b : UInt8} (h : dgB b.toNat = true) (k : F) : val env b k = (b.toNat : Int) - 48 := by simp [val, F.one, valG, h]
theorem val_two {env : Nat → Int} {b : UInt8} (h : b.toNat = 43 ∨ b.toNat = 45 ∨ b.toNat = 42) (b1 : UInt8) (k1 : F) (b2 : UInt8) (k2 : F) :
    val env b (.node b1 k1 (.node b2 k2 .nil)) = if b.toNat = 43 then (val env b1 k1 + val env b2 k2) % 3 else if b.toNat = 45 then (val env b1 k1 - val env b2 k2 + 3) % 3 else val env b1 k1 * val env b2 k2 % 3 := by
  have : dgB b.toNat = false := by simp [dgB]; omega
  simp [val, F.one, valG, this, F.cata]

/-! ### Folding -/
def foldG (b : UInt8) (_ : F) (vs : List (UInt8 × F)) : UInt8 × F :=
  match vs with
  | [(b1, k1), (b2, k2)] =>
    if dgB b1.toNat && dgB b2.toNat then (UInt8.ofNat (48 + (val (fun _ => 0) b (.node b1 k1 (.node b2 k2 .nil))).toNat), .nil) else (b, .node b1 k1 (.node b2 k2 .nil))
  | _ => (b, .nil)
def fold (b : UInt8) (k : F) : UInt8 × F := F.one foldG b k
theorem fold_leaf (b : UInt8) : fold b .nil = (b, .nil) := rfl
theorem fold_two (b b1 : UInt8) (k1 : F) (b2 : UInt8) (k2 : F) : fold b (.node b1 k1 (.node b2 k2 .nil)) =
    if dgB (fold b1 k1).1.toNat && dgB (fold b2 k2).1.toNat then (UInt8.ofNat (48 + (val (fun _ => 0) b (.node (fold b1 k1).1 (fold b1 k1).2 (.node (fold b2 k2).1 (fold b2 k2).2 .nil))).toNat), .nil)
    else (b, .node (fold b1 k1).1 (fold b1 k1).2 (.node (fold b2 k2).1 (fold b2 k2).2 .nil)) := rfl

theorem is_dig {wide : Bool} {b : UInt8} (h : dgB b.toNat = true) : Is wide 0 b .nil := ⟨[], by simp [wants, h], rfl⟩
theorem is_two {wide : Bool} {b : UInt8} (h : b.toNat = 43 ∨ b.toNat = 45 ∨ b.toNat = 42) {b1 : UInt8} {k1 : F} {b2 : UInt8} {k2 : F} (h1 : Is wide 0 b1 k1) (h2 : Is wide 0 b2 k2) :
    Is wide 0 b (.node b1 k1 (.node b2 k2 .nil)) := by
  refine ⟨[0, 0], ?_, ok_node h1 (ok_node h2 rfl)⟩
  have h3 : (vrB wide b.toNat || dgB b.toNat) = false := by cases wide <;> simp [vrB, dgB] <;> omega
  simp only [wants, h3]
  simp [h]

theorem is_size {wide : Bool} (n : Nat) : ∀ (b : UInt8) (k : F), k.size ≤ n → Is wide 0 b k → Is wide 0 (fold b k).1 (fold b k).2 ∧ (tx (fold b k).1 (fold b k).2).length ≤ (tx b k).length := by
  induction n with
  | zero =>
    intro b k hk h
    rcases is_expr h with ⟨rfl, _⟩ | ⟨_, _, b1, k1, b2, k2, rfl, _, _⟩
    · exact ⟨h, Nat.le_refl _⟩
    · simp [F.size] at hk
  | succ n ih =>
    intro b k hk h
    rcases is_expr h with ⟨rfl, _⟩ | ⟨_, ho, b1, k1, b2, k2, rfl, i1, i2⟩
    · exact ⟨h, Nat.le_refl _⟩
    · simp [F.size] at hk
      obtain ⟨j1, l1⟩ := ih b1 k1 (by omega) i1
      obtain ⟨j2, l2⟩ := ih b2 k2 (by omega) i2
      rw [fold_two]
      split
      · have hr := val_range (fun _ => 0) (by intro; omega) b (.node (fold b1 k1).1 (fold b1 k1).2 (.node (fold b2 k2).1 (fold b2 k2).2 .nil))
        refine ⟨is_dig ?_, ?_⟩
        · generalize val _ _ _ = v at hr
          have : (UInt8.ofNat (48 + v.toNat)).toNat = 48 + v.toNat := by rw [UInt8.toNat_ofNat']; omega
          rw [this]; simp [dgB]; omega
        · simp [tx, F.text]
      · refine ⟨is_two ho j1 j2, ?_⟩
        simp only [tx, F.text, List.length_cons, List.length_append, List.length_nil] at l1 l2 ⊢
        omega
theorem fold_is {wide : Bool} {b : UInt8} {k : F} (h : Is wide 0 b k) : Is wide 0 (fold b k).1 (fold b k).2 := (is_size k.size b k (Nat.le_refl _) h).1
theorem fold_len {wide : Bool} {b : UInt8} {k : F} (h : Is wide 0 b k) : (tx (fold b k).1 (fold b k).2).length ≤ (tx b k).length := (is_size k.size b k (Nat.le_refl _) h).2
end Go.Proofs.Ytnhdnfanjefglaa.Pl
