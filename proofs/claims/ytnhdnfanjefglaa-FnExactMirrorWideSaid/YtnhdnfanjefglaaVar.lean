/- Contracts: the letter of a variable. -/
import Derived.Test.YtnhdnfanjefglaaFind
namespace Go.Proofs.Ytnhdnfanjefglaa.Va
open Go.RowKit Go.Proofs.Ytnhdnfanjefglaa.Bi Go.Proofs.Ytnhdnfanjefglaa.Fi

/-- The number of a variable, or -1. -/
def varNo (v : ByteArray) : Int := if v.toList = [120] then 0 else if v.toList = [121] then 1 else if v.toList = [122] then 2 else -1
theorem list_of (v : ByteArray) : v.toList = v.data.toList := ByteArray.toList_eq v
theorem one_byte {v : ByteArray} (h : v.size = 1) : ∃ c, v = ⟨#[c]⟩ := by
  obtain ⟨⟨l⟩⟩ := v
  match l, h with
  | [c], _ => exact ⟨c, rfl⟩
theorem find_xyz (c : UInt8) : Lib.indexByte [120, 121, 122] c = varNo ⟨#[c]⟩ := by
  unfold varNo
  rw [list_of]
  by_cases h1 : c = 120
  · subst h1; decide
  · by_cases h2 : c = 121
    · subst h2; decide
    · by_cases h3 : c = 122
      · subst h3; decide
      · have e1 : ((120 : UInt8) == c) = false := beq_eq_false_iff_ne.2 (Ne.symm h1)
        have e2 : ((121 : UInt8) == c) = false := beq_eq_false_iff_ne.2 (Ne.symm h2)
        have e3 : ((122 : UInt8) == c) = false := beq_eq_false_iff_ne.2 (Ne.symm h3)
        simp [Lib.indexByte, e1, e2, e3, h1, h2, h3]
theorem var_size {v : ByteArray} (h : ¬ v.size = 1) : varNo v = -1 := by
  have hl : ∀ c : UInt8, v.toList ≠ [c] := fun c e => h (by
    rw [list_of] at e
    have := congrArg List.length e
    simpa using this)
  unfold varNo
  rw [if_neg (hl _), if_neg (hl _), if_neg (hl _)]
theorem var_cases (v : ByteArray) : (varNo v = 0 ∧ v = ⟨#[120]⟩) ∨ (varNo v = 1 ∧ v = ⟨#[121]⟩) ∨ (varNo v = 2 ∧ v = ⟨#[122]⟩) ∨ (varNo v = -1 ∧ (v.toList == [120]) = false ∧ (v.toList == [121]) = false ∧ (v.toList == [122]) = false) := by
  have mk : ∀ c : UInt8, v.toList = [c] → v = ⟨#[c]⟩ := fun c e => by
    rw [list_of] at e
    cases v; simp at e; simp [← e]
  unfold varNo
  by_cases h1 : v.toList = [120]
  · rw [if_pos h1]; exact .inl ⟨rfl, mk _ h1⟩
  · rw [if_neg h1]
    by_cases h2 : v.toList = [121]
    · rw [if_pos h2]; exact .inr (.inl ⟨rfl, mk _ h2⟩)
    · rw [if_neg h2]
      by_cases h3 : v.toList = [122]
      · rw [if_pos h3]; exact .inr (.inr (.inl ⟨rfl, mk _ h3⟩))
      · rw [if_neg h3]
        exact .inr (.inr (.inr ⟨rfl, beq_eq_false_iff_ne.2 h1, beq_eq_false_iff_ne.2 h2, beq_eq_false_iff_ne.2 h3⟩))

theorem var_x : varNo ⟨#[120]⟩ = 0 := by unfold varNo; rw [list_of]; rfl
theorem var_y : varNo ⟨#[121]⟩ = 1 := by unfold varNo; rw [list_of]; rfl
theorem var_z : varNo ⟨#[122]⟩ = 2 := by unfold varNo; rw [list_of]; rfl

end Go.Proofs.Ytnhdnfanjefglaa.Va
