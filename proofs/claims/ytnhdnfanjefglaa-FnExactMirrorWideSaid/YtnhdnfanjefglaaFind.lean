/- Contracts: where a byte first stands in a text; how many ones a text of bits has. -/
import Derived.Test.YtnhdnfanjefglaaBits
import Derived.Lib.Bytealg
namespace Go.Proofs.Ytnhdnfanjefglaa.Fi
open Go.RowKit Go.Proofs.Ytnhdnfanjefglaa.Bi

theorem index_at : ∀ (l : List UInt8) (c : UInt8) (k : Nat), (∀ j, j < k → l[j]? ≠ some c) → l[k]? = some c → Lib.indexByte l c = k
  | [], c, k, _, h => by simp at h
  | b :: l, c, 0, _, h => by simp at h; simp [Lib.indexByte, h]
  | b :: l, c, k + 1, h0, h => by
    have hb : (b == c) = false := by
      rw [beq_eq_false_iff_ne]; intro e; exact h0 0 (by omega) (by simp [e])
    have ih := index_at l c k (fun j hj => by have := h0 (j + 1) (by omega); simpa using this) (by simpa using h)
    unfold Lib.indexByte
    rw [hb, ih]
    have : ((k : Int) == -1) = false := by rw [beq_eq_false_iff_ne]; omega
    simp [this]
theorem index_none : ∀ (l : List UInt8) (c : UInt8), (∀ j, j < l.length → l[j]? ≠ some c) → Lib.indexByte l c = -1
  | [], c, _ => rfl
  | b :: l, c, h0 => by
    have hb : (b == c) = false := by
      rw [beq_eq_false_iff_ne]; intro e; exact h0 0 (by simp) (by simp [e])
    have ih := index_none l c (fun j hj => by have := h0 (j + 1) (by simp; omega); simpa using this)
    unfold Lib.indexByte
    rw [hb, ih]
    rfl
/-- None of the first k bytes is c. -/
def noneTo (s : ByteArray) (c : UInt8) (k : Nat) : Prop := ∀ j, j < k → s.data.toList[j]? ≠ some c
theorem none_step {s : ByteArray} {c : UInt8} {k : Nat} (h : noneTo s c k) (hk : k < s.size) (hc : s[k] ≠ c) : noneTo s c (k + 1) := by
  intro j hj
  by_cases e : j = k
  · subst e; rw [byte_at s j hk]; simpa using hc
  · exact h j (by omega)
theorem find_here {s : ByteArray} {c : UInt8} {k : Nat} (h : noneTo s c k) (hk : k < s.size) (hc : s[k] = c) : Lib.indexByte s.data.toList c = k :=
  index_at _ _ _ h (by rw [byte_at s k hk, hc])
theorem find_not {s : ByteArray} {c : UInt8} (h : noneTo s c s.size) : Lib.indexByte s.data.toList c = -1 :=
  index_none _ _ fun j hj => h j (by simpa using hj)
theorem index_range : ∀ (l : List UInt8) (c : UInt8), Lib.indexByte l c = -1 ∨ (0 ≤ Lib.indexByte l c ∧ Lib.indexByte l c < l.length)
  | [], c => .inl rfl
  | b :: l, c => by
    unfold Lib.indexByte
    split
    · right; simp
    · rcases index_range l c with h | h
      · rw [h]; left; rfl
      · have : (Lib.indexByte l c == -1) = false := by rw [beq_eq_false_iff_ne]; omega
        rw [this]
        right
        simp; omega
theorem index_count : ∀ (l : List UInt8) (c : UInt8), Lib.indexByte l c = -1 ↔ l.count c = 0
  | [], c => by simp [Lib.indexByte]
  | b :: l, c => by
    unfold Lib.indexByte
    rw [List.count_cons]
    by_cases e : b = c
    · subst e; simp
    · have e1 : (b == c) = false := beq_eq_false_iff_ne.2 e
      simp only [e1]
      rcases index_range l c with h | h
      · have := (index_count l c).1 h
        simp [h, this]
      · have h1 : ¬ l.count c = 0 := fun h2 => by have := (index_count l c).2 h2; omega
        have : (Lib.indexByte l c == -1) = false := by rw [beq_eq_false_iff_ne]; omega
        rw [this]
        simp only [Bool.false_eq_true, if_false]
        constructor
        · intro h3; omega
        · intro h3; omega

set_option maxHeartbeats 400000 in
theorem specFind (s : ByteArray) (c : UInt8) (w : World) (hs : s.size ≤ maxLen) :
    Calls Try.prog 15 #[.string s, .int .u8 (c.toNat : Int)] w fun e w' => e = .returned (.int .i64 (Lib.indexByte s.data.toList c)) ∧ w = w' := by
  unfold maxLen at hs
  go_enter Try.func15, Try.ntmps15
  go_wp2
  go_loop [5] (fun i => ∃ k : Nat, k ≤ s.size ∧ i = .int .i64 k ∧ noneTo s c k) (fun i => s.size - (intOf i).toNat)
  case atStart => exact ⟨0, Nat.zero_le _, rfl, fun j hj => absurd hj (by omega)⟩
  case round =>
    obtain ⟨k, hk, rfl, hg⟩ := hrel
    by_cases hlt : k < s.size
    · by_cases hc : s[k] = c
      · have HI := Lib.hid (find_here hg hlt hc)
        have g : ((s[k].toNat : Int) == (c.toNat : Int)) = true := by rw [hc]; simp
        clear hc
        go_wp2
        go_ret
        exact ⟨by rw [HI.out]; rfl, rfl⟩
      · have HG := none_step hg hlt hc
        have g : ((s[k].toNat : Int) == (c.toNat : Int)) = false := by
          rw [beq_eq_false_iff_ne]; intro e; exact hc (UInt8.toNat_inj.1 (by omega))
        clear hc
        go_wp2
        go_round
        case rel => exact ⟨k + 1, by omega, by go_num, HG⟩
        case measure => simp [intOf]; omega
    · obtain rfl : k = s.size := by omega
      have HI := Lib.hid (find_not hg)
      go_wp2
      go_ret
      exact ⟨by rw [HI.out]; rfl, rfl⟩
/-- The ones among the first k bytes. -/
def onesTo (s : ByteArray) (k : Nat) : Int := (s.data.toList.take k).count 49
theorem ones_le (s : ByteArray) (k : Nat) : 0 ≤ onesTo s k ∧ onesTo s k ≤ k := by
  unfold onesTo
  have h1 := List.count_le_length (a := (49 : UInt8)) (l := s.data.toList.take k)
  have h2 := List.length_take_le k s.data.toList
  omega
theorem ones_step {s : ByteArray} {k : Nat} (hk : k < s.size) : onesTo s (k + 1) = onesTo s k + if s[k].toNat = 49 then 1 else 0 := by
  unfold onesTo
  rw [List.take_add_one, byte_at s k hk, List.count_append]
  have : (Option.toList (some s[k])).count 49 = if s[k].toNat = 49 then 1 else 0 := by
    by_cases e : s[k].toNat = 49
    · have : s[k] = 49 := UInt8.toNat_inj.1 (by rw [e]; rfl)
      rw [if_pos e, this]; rfl
    · have : s[k] ≠ 49 := fun h => e (by rw [h]; rfl)
      simp [e, this]
  rw [this]
  split <;> simp
theorem ones_all (s : ByteArray) : (Lib.countByte s.data.toList 49 : Int) = onesTo s s.size := by
  unfold onesTo Lib.countByte
  rw [List.take_of_length_le (by simp)]
end Go.Proofs.Ytnhdnfanjefglaa.Fi
