/- Contracts: texts of bits: is a text one; is one within another. -/
import Derived.Test.YtnhdnfanjefglaaProg
import Derived.WalkKit
import Derived.WalkSpells
import Derived.Below
import Derived.Lib.Hide
namespace Go.Proofs.Ytnhdnfanjefglaa.Bi
open Go.RowKit

theorem ret_bool {a b : Bool} (h : a = b) : Ending.returned (.bool a) = .returned (.bool b) := by rw [h]

def bit (c : UInt8) : Bool := c.toNat == 48 || c.toNat == 49
/-- A text of n bits. -/
def bitsB (s : ByteArray) (n : Int) : Bool := s.data.toList.all bit && ((s.size : Int) == n)
def goodTo (s : ByteArray) (k : Nat) : Prop := (s.data.toList.take k).all bit = true

theorem byte_at (s : ByteArray) (k : Nat) (h : k < s.size) : s.data.toList[k]? = some s[k] := by
  rw [List.getElem?_eq_getElem (by simpa using h)]; rfl
theorem good_zero (s : ByteArray) : goodTo s 0 := by simp [goodTo]
theorem good_step {s : ByteArray} {k : Nat} (h : goodTo s k) (hk : k < s.size) (hb : s[k].toNat = 48 ∨ s[k].toNat = 49) : goodTo s (k + 1) := by
  unfold goodTo at *
  rw [List.take_add_one, byte_at s k hk]
  rcases hb with hb | hb <;> simp [h, bit, hb]
theorem bits_bad {s : ByteArray} {k : Nat} (n : Int) (hk : k < s.size) (h8 : ¬ s[k].toNat = 48) (h9 : ¬ s[k].toNat = 49) : bitsB s n = false := by
  have : s.data.toList.all bit = false := by
    rw [List.all_eq_false]
    exact ⟨s[k], List.mem_of_getElem? (byte_at s k hk), by rw [bit, beq_eq_false_iff_ne.2 h8, beq_eq_false_iff_ne.2 h9]; decide⟩
  unfold bitsB; rw [this]; rfl
theorem bits_all {s : ByteArray} (n : Int) (h : goodTo s s.size) : bitsB s n = ((s.size : Int) == n) := by
  have : s.data.toList.take s.size = s.data.toList := List.take_of_length_le (by simp)
  unfold goodTo at h
  rw [this] at h
  simp [bitsB, h]
theorem bits_size {s : ByteArray} {n : Int} (h : bitsB s n = true) : (s.size : Int) = n := by simp [bitsB] at h; exact h.2
theorem bits_bit {s : ByteArray} {n : Int} (h : bitsB s n = true) {k : Nat} (hk : k < s.size) : s[k].toNat = 48 ∨ s[k].toNat = 49 := by
  simp only [bitsB, Bool.and_eq_true, List.all_eq_true] at h
  have := h.1 s[k] (List.mem_of_getElem? (byte_at s k hk))
  simpa [bit] using this
theorem bits_len {s : ByteArray} {n : Int} (h : ¬ (s.size : Int) = n) : bitsB s n = false := by simp [bitsB, h]

end Go.Proofs.Ytnhdnfanjefglaa.Bi
