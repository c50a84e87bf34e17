/- Plain law: programs: head, parts, all statements in order, size, depth, the usual form, statements in sequence. No program in sight. -/
import Derived.Test.YtnhdnfanjefglaaSem
namespace Go.Proofs.Ytnhdnfanjefglaa.Pl

/-! ### Head and parts -/
/-- What the parts' own results are among those of all members. -/
def partsL {α : Type} (b : UInt8) (vs : List α) : List α :=
  if b.toNat = 59 ∨ b.toNat = 47 then vs else if b.toNat = 63 ∨ b.toNat = 64 then vs.tail else []
def headT (b : UInt8) (k : F) : List UInt8 :=
  if b.toNat = 97 then k.text else if b.toNat = 63 ∨ b.toNat = 64 ∨ b.toNat = 126 then (match k with | .node b0 k0 _ => tx b0 k0 | .nil => []) else []

/-- The members, as nodes. -/
def F.members : F → List (UInt8 × F)
  | .nil => []
  | .node b k n => (b, k) :: n.members
def partsOf (b : UInt8) (k : F) : List (UInt8 × F) := partsL b k.members

/-- The usual form of a program. -/
def fstT : F → List UInt8
  | .node b0 k0 _ => shT b0 k0
  | .nil => []
def asgT : F → List UInt8
  | .node b1 _ (.node b2 k2 _) => [b1] ++ [58, 61] ++ shE b2 k2
  | _ => []
def shPG (b : UInt8) (k : F) (vs : List (List UInt8)) : List UInt8 :=
  if b.toNat = 115 then [115, 107, 105, 112] else
  if b.toNat = 97 then asgT k else
  if b.toNat = 59 then vs.getD 0 [] ++ [59, 32] ++ vs.getD 1 [] else
  if b.toNat = 63 then [105, 102, 32] ++ fstT k ++ [32, 123] ++ vs.getD 1 [] ++ [125, 32, 101, 108, 115, 101, 32, 123] ++ vs.getD 2 [] ++ [125] else
  if b.toNat = 64 then [119, 104, 105, 108, 101, 32] ++ fstT k ++ [32, 123] ++ vs.getD 1 [] ++ [125] else
  if b.toNat = 47 then [101, 105, 116, 104, 101, 114, 32, 123] ++ vs.getD 0 [] ++ [125, 32, 111, 114, 32, 123] ++ vs.getD 1 [] ++ [125] else
  [97, 115, 115, 117, 109, 101, 32] ++ fstT k
def shP (b : UInt8) (k : F) : List UInt8 := F.one shPG b k

theorem shP_s {b : UInt8} (h : b.toNat = 115) (k : F) : shP b k = [115, 107, 105, 112] := by simp [shP, F.one, shPG, h]
theorem shP_a {b : UInt8} (h : b.toNat = 97) (b1 b2 : UInt8) (k1 k2 n : F) : shP b (.node b1 k1 (.node b2 k2 n)) = [b1] ++ [58, 61] ++ shE b2 k2 := by simp [shP, F.one, shPG, h, asgT]
theorem shP_seq {b : UInt8} (h : b.toNat = 59) (b1 b2 : UInt8) (k1 k2 : F) : shP b (.node b1 k1 (.node b2 k2 .nil)) = shP b1 k1 ++ [59, 32] ++ shP b2 k2 := by simp [shP, F.one, shPG, h, F.cata, fstT]
theorem shP_if {b : UInt8} (h : b.toNat = 63) (b0 b1 b2 : UInt8) (k0 k1 k2 : F) : shP b (.node b0 k0 (.node b1 k1 (.node b2 k2 .nil))) =
    [105, 102, 32] ++ shT b0 k0 ++ [32, 123] ++ shP b1 k1 ++ [125, 32, 101, 108, 115, 101, 32, 123] ++ shP b2 k2 ++ [125] := by simp [shP, F.one, shPG, h, F.cata, fstT]
theorem shP_while {b : UInt8} (h : b.toNat = 64) (b0 b1 : UInt8) (k0 k1 : F) : shP b (.node b0 k0 (.node b1 k1 .nil)) =
    [119, 104, 105, 108, 101, 32] ++ shT b0 k0 ++ [32, 123] ++ shP b1 k1 ++ [125] := by simp [shP, F.one, shPG, h, F.cata, fstT]
theorem shP_or {b : UInt8} (h : b.toNat = 47) (b1 b2 : UInt8) (k1 k2 : F) : shP b (.node b1 k1 (.node b2 k2 .nil)) =
    [101, 105, 116, 104, 101, 114, 32, 123] ++ shP b1 k1 ++ [125, 32, 111, 114, 32, 123] ++ shP b2 k2 ++ [125] := by simp [shP, F.one, shPG, h, F.cata, fstT]
theorem shP_assume {b : UInt8} (h : b.toNat = 126) (b0 : UInt8) (k0 n : F) : shP b (.node b0 k0 n) = [97, 115, 115, 117, 109, 101, 32] ++ shT b0 k0 := by simp [shP, F.one, shPG, h, fstT]

/-- All statements, a statement ahead of its parts. -/
def preG (b : UInt8) (k : F) (vs : List (List (UInt8 × F))) : List (UInt8 × F) := (b, k) :: (partsL b vs).flatten
def pre (b : UInt8) (k : F) : List (UInt8 × F) := F.one preG b k
/-- How deep statements are nested. -/
def depG (b : UInt8) (_ : F) (vs : List Nat) : Nat := (partsL b vs).foldl max 0 + 1
def dep (b : UInt8) (k : F) : Nat := F.one depG b k
/-- The statements that are executed in sequence. -/
def seqG (b : UInt8) (k : F) (vs : List (List (UInt8 × F))) : List (UInt8 × F) := if b.toNat = 59 then vs.flatten else [(b, k)]
def seq (b : UInt8) (k : F) : List (UInt8 × F) := F.one seqG b k

theorem cata_members {α : Type} (g : UInt8 → F → List α → α) : ∀ t : F, t.cata g = t.members.map fun x => F.one g x.1 x.2
  | .nil => rfl
  | .node b k n => by simp [F.cata, F.members, F.one, cata_members g n]
theorem partsL_map {α β : Type} (b : UInt8) (vs : List α) (f : α → β) : partsL b (vs.map f) = (partsL b vs).map f := by
  unfold partsL; (repeat' split) <;> simp
theorem pre_eq (b : UInt8) (k : F) : pre b k = (b, k) :: ((partsOf b k).map fun x => pre x.1 x.2).flatten := by
  rw [pre, F.one, preG, cata_members, partsL_map]; rfl
theorem dep_eq (b : UInt8) (k : F) : dep b k = ((partsOf b k).map fun x => dep x.1 x.2).foldl max 0 + 1 := by
  rw [dep, F.one, depG, cata_members, partsL_map]; rfl
theorem seq_eq {b : UInt8} (h : b.toNat = 59) (k : F) : seq b k = (k.members.map fun x => seq x.1 x.2).flatten := by
  rw [seq, F.one, seqG, cata_members, if_pos h]; rfl
theorem seq_one {b : UInt8} (h : ¬ b.toNat = 59) (k : F) : seq b k = [(b, k)] := by
  rw [seq, F.one, seqG, if_neg h]
end Go.Proofs.Ytnhdnfanjefglaa.Pl
