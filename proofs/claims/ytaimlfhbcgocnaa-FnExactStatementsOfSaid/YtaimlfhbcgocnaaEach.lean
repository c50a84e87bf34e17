/- Contract: each: a function value is called at a statement and at all statements of its parts. -/
import Derived.Test.YtaimlfhbcgocnaaParts
namespace Go.Proofs.Ytaimlfhbcgocnaa.Ea
open Go.RowKit Go.Deep Go.Proofs.Ytaimlfhbcgocnaa.Pl Go.Proofs.Ytaimlfhbcgocnaa.Bi Go.Proofs.Ytaimlfhbcgocnaa.Fi Go.Proofs.Ytaimlfhbcgocnaa.Ed Go.Proofs.Ytaimlfhbcgocnaa.Ps Go.Proofs.Ytaimlfhbcgocnaa.Sw Go.Proofs.Ytaimlfhbcgocnaa.Hd Go.Proofs.Ytaimlfhbcgocnaa.Pp
set_option linter.unusedVariables false

/-! ### Plain -/
/-- The statements of the first so many parts. -/
def preTo (b : UInt8) (k : F) (i : Nat) : List (UInt8 × F) := (((partsOf b k).take i).map fun x => pre x.1 x.2).flatten
theorem preTo_zero (b : UInt8) (k : F) : preTo b k 0 = [] := by simp [preTo]
theorem preTo_step {b : UInt8} {k : F} {i : Nat} {x : UInt8 × F} (h : (partsOf b k)[i]? = some x) : preTo b k (i + 1) = preTo b k i ++ pre x.1 x.2 := by
  unfold preTo
  rw [List.take_add_one, h]
  simp
theorem preTo_all (b : UInt8) (k : F) : (b, k) :: preTo b k (partsOf b k).length = pre b k := by
  rw [pre_eq]
  unfold preTo
  rw [List.take_of_length_le (Nat.le_refl _)]
theorem members_sum : ∀ t : F, (t.members.map fun x => x.2.size + 1).sum = t.size
  | .nil => rfl
  | .node b k n => by simp [F.members, F.size, members_sum n]; omega
theorem sum_tail_le : ∀ l : List Nat, l.tail.sum ≤ l.sum
  | [] => Nat.le_refl _
  | a :: l => by simp
theorem parts_sum (b : UInt8) (k : F) : ((partsOf b k).map fun x => x.2.size + 1).sum ≤ k.size := by
  unfold partsOf partsL
  split
  · rw [members_sum]; exact Nat.le_refl _
  · split
    · rw [List.map_tail]
      exact Nat.le_trans (sum_tail_le _) (Nat.le_of_eq (members_sum k))
    · simp
theorem sum_take_le : ∀ (l : List Nat) (i : Nat), (l.take i).sum ≤ l.sum
  | [], i => by simp
  | a :: l, 0 => by simp
  | a :: l, i + 1 => by simp only [List.take_succ_cons, List.sum_cons]; have := sum_take_le l i; omega
theorem pre_len_aux (n : Nat) : ∀ (b : UInt8) (k : F), k.size ≤ n → (pre b k).length ≤ k.size + 1 := by
  induction n with
  | zero =>
    intro b k hk
    have h := parts_len (b := b) (k := k)
    have : partsOf b k = [] := List.eq_nil_of_length_eq_zero (by omega)
    rw [pre_eq, this]; simp
  | succ n ih =>
    intro b k hk
    rw [pre_eq]
    simp only [List.length_cons, List.length_flatten, List.map_map]
    have h1 : ((partsOf b k).map (List.length ∘ fun x => pre x.1 x.2)).sum ≤ ((partsOf b k).map fun x => x.2.size + 1).sum := by
      have hm : ∀ x ∈ partsOf b k, (pre x.1 x.2).length ≤ x.2.size + 1 := fun x hx => ih x.1 x.2 (by have := part_size hx; omega)
      generalize partsOf b k = L at hm
      induction L with
      | nil => simp
      | cons a L ihL =>
        simp only [List.map_cons, List.sum_cons, Function.comp]
        have h2 := hm a (by simp)
        have h3 := ihL fun x hx => hm x (by simp [hx])
        omega
    have h2 := parts_sum b k
    omega
theorem pre_len (b : UInt8) (k : F) : (pre b k).length ≤ k.size + 1 := pre_len_aux k.size b k (Nat.le_refl _)
theorem preTo_len {b : UInt8} {k : F} {i : Nat} {x : UInt8 × F} (h : (partsOf b k)[i]? = some x) : (preTo b k i).length + (x.2.size + 1) ≤ k.size := by
  have h1 := parts_sum b k
  have h2 := sum_take_le ((partsOf b k).map fun x => x.2.size + 1) (i + 1)
  rw [← List.map_take, List.take_add_one, h] at h2
  simp only [Option.toList_some, List.map_append, List.map_cons, List.map_nil, List.sum_append, List.sum_cons, List.sum_nil] at h2
  have h3 : (preTo b k i).length ≤ (((partsOf b k).take i).map fun x => x.2.size + 1).sum := by
    unfold preTo
    generalize (partsOf b k).take i = L
    induction L with
    | nil => simp
    | cons a L ih =>
      simp only [List.map_cons, List.flatten_cons, List.length_append, List.sum_cons]
      have := pre_len a.1 a.2
      omega
  omega

end Go.Proofs.Ytaimlfhbcgocnaa.Ea
