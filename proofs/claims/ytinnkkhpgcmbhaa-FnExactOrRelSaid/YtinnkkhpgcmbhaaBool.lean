/- Contracts: what two sets, or relations, have both, or one of them, or one has not. -/
import Derived.Test.YtinnkkhpgcmbhaaMake
import Derived.Test.YtinnkkhpgcmbhaaSets
namespace Go.Proofs.Ytinnkkhpgcmbhaa.Bo
open Go.RowKit Go.Proofs.Ytinnkkhpgcmbhaa.Ro Go.Proofs.Ytinnkkhpgcmbhaa.Bi Go.Proofs.Ytinnkkhpgcmbhaa.St Go.Proofs.Ytinnkkhpgcmbhaa.Se

theorem string_box {w : World} {t : TypeId} {p : ByteArray} : (w.alloc (.cells #[.string p] t)).cell? ⟨w.heap.size, 0, none⟩ = some (.string p) := by simp [World.cell?_alloc_at]
set_option maxHeartbeats 1000000 in
theorem tells_AndPred (n : Nat) (p q : ByteArray) (w : World) (b1 b2 : Nat) (h1 : w.cell? ⟨b1, 0, none⟩ = some (.string p)) (h2 : w.cell? ⟨b2, 0, none⟩ = some (.string q)) (hp : p.size = n) (hq : q.size = n) :
    Tells 42 #[.pointer (some ⟨b1, 0, none⟩), .pointer (some ⟨b2, 0, none⟩)] n (fun i => one p i && one q i) w := by
  intro i hi W hb
  have c1 := (hb.cell (p := ⟨b1, 0, none⟩) (block_lt_of_cell h1)).trans h1
  have c2 := (hb.cell (p := ⟨b2, 0, none⟩) (block_lt_of_cell h2)).trans h2
  have ip : i < p.size := by omega
  have iq : i < q.size := by omega
  have o1 := one_at ip
  have o2 := one_at iq
  simp only [o1, o2]
  clear h1 h2 hp hq o1 o2 hb hi
  show Calls Try.prog 42 #[.int .i64 (i : Int), .pointer (some ⟨b1, 0, none⟩), .pointer (some ⟨b2, 0, none⟩)] W _
  by_cases e1 : p[i].toNat = 49
  all_goals by_cases e2 : q[i].toNat = 49
  · have HR := Lib.hid (show ((p[i].toNat == 49) && (q[i].toNat == 49)) = true by rw [beq_iff_eq.2 e1, beq_iff_eq.2 e2]; rfl)
    have g1 : ((p[i].toNat : Int) == 49) = true := by simp; omega
    have g2 : ((q[i].toNat : Int) == 49) = true := by simp; omega
    clear e1 e2
    rw [HR.out]
    go_enter Try.func42, Try.ntmps42
    go_wp2
    go_ret
    exact ⟨rfl, Below.refl _ _⟩
  · have HR := Lib.hid (show ((p[i].toNat == 49) && (q[i].toNat == 49)) = false by rw [beq_iff_eq.2 e1, beq_eq_false_iff_ne.2 e2]; rfl)
    have g1 : ((p[i].toNat : Int) == 49) = true := by simp; omega
    have g2 : ((q[i].toNat : Int) == 49) = false := by simp; omega
    clear e1 e2
    rw [HR.out]
    go_enter Try.func42, Try.ntmps42
    go_wp2
    go_ret
    exact ⟨rfl, Below.refl _ _⟩
  · have HR := Lib.hid (show ((p[i].toNat == 49) && (q[i].toNat == 49)) = false by rw [beq_eq_false_iff_ne.2 e1, beq_iff_eq.2 e2]; rfl)
    have g1 : ((p[i].toNat : Int) == 49) = false := by simp; omega
    have g2 : ((q[i].toNat : Int) == 49) = true := by simp; omega
    clear e1 e2
    rw [HR.out]
    go_enter Try.func42, Try.ntmps42
    go_wp2
    go_ret
    exact ⟨rfl, Below.refl _ _⟩
  · have HR := Lib.hid (show ((p[i].toNat == 49) && (q[i].toNat == 49)) = false by rw [beq_eq_false_iff_ne.2 e1, beq_eq_false_iff_ne.2 e2]; rfl)
    have g1 : ((p[i].toNat : Int) == 49) = false := by simp; omega
    have g2 : ((q[i].toNat : Int) == 49) = false := by simp; omega
    clear e1 e2
    rw [HR.out]
    go_enter Try.func42, Try.ntmps42
    go_wp2
    go_ret
    exact ⟨rfl, Below.refl _ _⟩
set_option maxHeartbeats 1000000 in
theorem tells_OrPred (n : Nat) (p q : ByteArray) (w : World) (b1 b2 : Nat) (h1 : w.cell? ⟨b1, 0, none⟩ = some (.string p)) (h2 : w.cell? ⟨b2, 0, none⟩ = some (.string q)) (hp : p.size = n) (hq : q.size = n) :
    Tells 46 #[.pointer (some ⟨b1, 0, none⟩), .pointer (some ⟨b2, 0, none⟩)] n (fun i => one p i || one q i) w := by
  intro i hi W hb
  have c1 := (hb.cell (p := ⟨b1, 0, none⟩) (block_lt_of_cell h1)).trans h1
  have c2 := (hb.cell (p := ⟨b2, 0, none⟩) (block_lt_of_cell h2)).trans h2
  have ip : i < p.size := by omega
  have iq : i < q.size := by omega
  have o1 := one_at ip
  have o2 := one_at iq
  simp only [o1, o2]
  clear h1 h2 hp hq o1 o2 hb hi
  show Calls Try.prog 46 #[.int .i64 (i : Int), .pointer (some ⟨b1, 0, none⟩), .pointer (some ⟨b2, 0, none⟩)] W _
  by_cases e1 : p[i].toNat = 49
  all_goals by_cases e2 : q[i].toNat = 49
  · have HR := Lib.hid (show ((p[i].toNat == 49) || (q[i].toNat == 49)) = true by rw [beq_iff_eq.2 e1, beq_iff_eq.2 e2]; rfl)
    have g1 : ((p[i].toNat : Int) == 49) = true := by simp; omega
    have g2 : ((q[i].toNat : Int) == 49) = true := by simp; omega
    clear e1 e2
    rw [HR.out]
    go_enter Try.func46, Try.ntmps46
    go_wp2
    go_ret
    exact ⟨rfl, Below.refl _ _⟩
  · have HR := Lib.hid (show ((p[i].toNat == 49) || (q[i].toNat == 49)) = true by rw [beq_iff_eq.2 e1, beq_eq_false_iff_ne.2 e2]; rfl)
    have g1 : ((p[i].toNat : Int) == 49) = true := by simp; omega
    have g2 : ((q[i].toNat : Int) == 49) = false := by simp; omega
    clear e1 e2
    rw [HR.out]
    go_enter Try.func46, Try.ntmps46
    go_wp2
    go_ret
    exact ⟨rfl, Below.refl _ _⟩
  · have HR := Lib.hid (show ((p[i].toNat == 49) || (q[i].toNat == 49)) = true by rw [beq_eq_false_iff_ne.2 e1, beq_iff_eq.2 e2]; rfl)
    have g1 : ((p[i].toNat : Int) == 49) = false := by simp; omega
    have g2 : ((q[i].toNat : Int) == 49) = true := by simp; omega
    clear e1 e2
    rw [HR.out]
    go_enter Try.func46, Try.ntmps46
    go_wp2
    go_ret
    exact ⟨rfl, Below.refl _ _⟩
  · have HR := Lib.hid (show ((p[i].toNat == 49) || (q[i].toNat == 49)) = false by rw [beq_eq_false_iff_ne.2 e1, beq_eq_false_iff_ne.2 e2]; rfl)
    have g1 : ((p[i].toNat : Int) == 49) = false := by simp; omega
    have g2 : ((q[i].toNat : Int) == 49) = false := by simp; omega
    clear e1 e2
    rw [HR.out]
    go_enter Try.func46, Try.ntmps46
    go_wp2
    go_ret
    exact ⟨rfl, Below.refl _ _⟩
set_option maxHeartbeats 1000000 in
theorem tells_NotPred (n : Nat) (p : ByteArray) (w : World) (b1 : Nat) (h1 : w.cell? ⟨b1, 0, none⟩ = some (.string p)) (hp : p.size = n) (hbit : ∀ k (hk : k < p.size), p[k].toNat = 48 ∨ p[k].toNat = 49) :
    Tells 44 #[.pointer (some ⟨b1, 0, none⟩)] n (fun i => !one p i) w := by
  intro i hi W hb
  have c1 := (hb.cell (p := ⟨b1, 0, none⟩) (block_lt_of_cell h1)).trans h1
  have ip : i < p.size := by omega
  have o1 := one_at ip
  have h8 := hbit i ip
  simp only [o1]
  clear h1 hp o1 hb hi hbit
  show Calls Try.prog 44 #[.int .i64 (i : Int), .pointer (some ⟨b1, 0, none⟩)] W _
  by_cases e1 : p[i].toNat = 48
  · have HR := Lib.hid (show (!(p[i].toNat == 49)) = true by first | (rw [beq_eq_false_iff_ne.2 (by omega)]; rfl) | (rw [beq_iff_eq.2 (by omega)]; rfl))
    have g1 : ((p[i].toNat : Int) == 48) = true := by simp; omega
    clear e1 h8
    rw [HR.out]
    go_enter Try.func44, Try.ntmps44
    go_wp2
    go_ret
    exact ⟨rfl, Below.refl _ _⟩
  · have HR := Lib.hid (show (!(p[i].toNat == 49)) = false by first | (rw [beq_eq_false_iff_ne.2 (by omega)]; rfl) | (rw [beq_iff_eq.2 (by omega)]; rfl))
    have g1 : ((p[i].toNat : Int) == 48) = false := by simp; omega
    clear e1 h8
    rw [HR.out]
    go_enter Try.func44, Try.ntmps44
    go_wp2
    go_ret
    exact ⟨rfl, Below.refl _ _⟩
set_option maxHeartbeats 1000000 in
theorem tells_andRel (n : Nat) (p q : ByteArray) (w : World) (b1 b2 : Nat) (h1 : w.cell? ⟨b1, 0, none⟩ = some (.string p)) (h2 : w.cell? ⟨b2, 0, none⟩ = some (.string q)) (hp : p.size = n) (hq : q.size = n) :
    Tells 70 #[.pointer (some ⟨b1, 0, none⟩), .pointer (some ⟨b2, 0, none⟩)] n (fun i => one p i && one q i) w := by
  intro i hi W hb
  have c1 := (hb.cell (p := ⟨b1, 0, none⟩) (block_lt_of_cell h1)).trans h1
  have c2 := (hb.cell (p := ⟨b2, 0, none⟩) (block_lt_of_cell h2)).trans h2
  have ip : i < p.size := by omega
  have iq : i < q.size := by omega
  have o1 := one_at ip
  have o2 := one_at iq
  simp only [o1, o2]
  clear h1 h2 hp hq o1 o2 hb hi
  show Calls Try.prog 70 #[.int .i64 (i : Int), .pointer (some ⟨b1, 0, none⟩), .pointer (some ⟨b2, 0, none⟩)] W _
  by_cases e1 : p[i].toNat = 49
  all_goals by_cases e2 : q[i].toNat = 49
  · have HR := Lib.hid (show ((p[i].toNat == 49) && (q[i].toNat == 49)) = true by rw [beq_iff_eq.2 e1, beq_iff_eq.2 e2]; rfl)
    have g1 : ((p[i].toNat : Int) == 49) = true := by simp; omega
    have g2 : ((q[i].toNat : Int) == 49) = true := by simp; omega
    clear e1 e2
    rw [HR.out]
    go_enter Try.func70, Try.ntmps70
    go_wp2
    go_ret
    exact ⟨rfl, Below.refl _ _⟩
  · have HR := Lib.hid (show ((p[i].toNat == 49) && (q[i].toNat == 49)) = false by rw [beq_iff_eq.2 e1, beq_eq_false_iff_ne.2 e2]; rfl)
    have g1 : ((p[i].toNat : Int) == 49) = true := by simp; omega
    have g2 : ((q[i].toNat : Int) == 49) = false := by simp; omega
    clear e1 e2
    rw [HR.out]
    go_enter Try.func70, Try.ntmps70
    go_wp2
    go_ret
    exact ⟨rfl, Below.refl _ _⟩
  · have HR := Lib.hid (show ((p[i].toNat == 49) && (q[i].toNat == 49)) = false by rw [beq_eq_false_iff_ne.2 e1, beq_iff_eq.2 e2]; rfl)
    have g1 : ((p[i].toNat : Int) == 49) = false := by simp; omega
    have g2 : ((q[i].toNat : Int) == 49) = true := by simp; omega
    clear e1 e2
    rw [HR.out]
    go_enter Try.func70, Try.ntmps70
    go_wp2
    go_ret
    exact ⟨rfl, Below.refl _ _⟩
  · have HR := Lib.hid (show ((p[i].toNat == 49) && (q[i].toNat == 49)) = false by rw [beq_eq_false_iff_ne.2 e1, beq_eq_false_iff_ne.2 e2]; rfl)
    have g1 : ((p[i].toNat : Int) == 49) = false := by simp; omega
    have g2 : ((q[i].toNat : Int) == 49) = false := by simp; omega
    clear e1 e2
    rw [HR.out]
    go_enter Try.func70, Try.ntmps70
    go_wp2
    go_ret
    exact ⟨rfl, Below.refl _ _⟩
set_option maxHeartbeats 1000000 in
theorem tells_orRel (n : Nat) (p q : ByteArray) (w : World) (b1 b2 : Nat) (h1 : w.cell? ⟨b1, 0, none⟩ = some (.string p)) (h2 : w.cell? ⟨b2, 0, none⟩ = some (.string q)) (hp : p.size = n) (hq : q.size = n) :
    Tells 72 #[.pointer (some ⟨b1, 0, none⟩), .pointer (some ⟨b2, 0, none⟩)] n (fun i => one p i || one q i) w := by
  intro i hi W hb
  have c1 := (hb.cell (p := ⟨b1, 0, none⟩) (block_lt_of_cell h1)).trans h1
  have c2 := (hb.cell (p := ⟨b2, 0, none⟩) (block_lt_of_cell h2)).trans h2
  have ip : i < p.size := by omega
  have iq : i < q.size := by omega
  have o1 := one_at ip
  have o2 := one_at iq
  simp only [o1, o2]
  clear h1 h2 hp hq o1 o2 hb hi
  show Calls Try.prog 72 #[.int .i64 (i : Int), .pointer (some ⟨b1, 0, none⟩), .pointer (some ⟨b2, 0, none⟩)] W _
  by_cases e1 : p[i].toNat = 49
  all_goals by_cases e2 : q[i].toNat = 49
  · have HR := Lib.hid (show ((p[i].toNat == 49) || (q[i].toNat == 49)) = true by rw [beq_iff_eq.2 e1, beq_iff_eq.2 e2]; rfl)
    have g1 : ((p[i].toNat : Int) == 49) = true := by simp; omega
    have g2 : ((q[i].toNat : Int) == 49) = true := by simp; omega
    clear e1 e2
    rw [HR.out]
    go_enter Try.func72, Try.ntmps72
    go_wp2
    go_ret
    exact ⟨rfl, Below.refl _ _⟩
  · have HR := Lib.hid (show ((p[i].toNat == 49) || (q[i].toNat == 49)) = true by rw [beq_iff_eq.2 e1, beq_eq_false_iff_ne.2 e2]; rfl)
    have g1 : ((p[i].toNat : Int) == 49) = true := by simp; omega
    have g2 : ((q[i].toNat : Int) == 49) = false := by simp; omega
    clear e1 e2
    rw [HR.out]
    go_enter Try.func72, Try.ntmps72
    go_wp2
    go_ret
    exact ⟨rfl, Below.refl _ _⟩
  · have HR := Lib.hid (show ((p[i].toNat == 49) || (q[i].toNat == 49)) = true by rw [beq_eq_false_iff_ne.2 e1, beq_iff_eq.2 e2]; rfl)
    have g1 : ((p[i].toNat : Int) == 49) = false := by simp; omega
    have g2 : ((q[i].toNat : Int) == 49) = true := by simp; omega
    clear e1 e2
    rw [HR.out]
    go_enter Try.func72, Try.ntmps72
    go_wp2
    go_ret
    exact ⟨rfl, Below.refl _ _⟩
  · have HR := Lib.hid (show ((p[i].toNat == 49) || (q[i].toNat == 49)) = false by rw [beq_eq_false_iff_ne.2 e1, beq_eq_false_iff_ne.2 e2]; rfl)
    have g1 : ((p[i].toNat : Int) == 49) = false := by simp; omega
    have g2 : ((q[i].toNat : Int) == 49) = false := by simp; omega
    clear e1 e2
    rw [HR.out]
    go_enter Try.func72, Try.ntmps72
    go_wp2
    go_ret
    exact ⟨rfl, Below.refl _ _⟩
set_option maxHeartbeats 1000000 in
theorem tells_notRel (n : Nat) (p : ByteArray) (w : World) (b1 : Nat) (h1 : w.cell? ⟨b1, 0, none⟩ = some (.string p)) (hp : p.size = n) (hbit : ∀ k (hk : k < p.size), p[k].toNat = 48 ∨ p[k].toNat = 49) :
    Tells 71 #[.pointer (some ⟨b1, 0, none⟩)] n (fun i => !one p i) w := by
  intro i hi W hb
  have c1 := (hb.cell (p := ⟨b1, 0, none⟩) (block_lt_of_cell h1)).trans h1
  have ip : i < p.size := by omega
  have o1 := one_at ip
  have h8 := hbit i ip
  simp only [o1]
  clear h1 hp o1 hb hi hbit
  show Calls Try.prog 71 #[.int .i64 (i : Int), .pointer (some ⟨b1, 0, none⟩)] W _
  by_cases e1 : p[i].toNat = 48
  · have HR := Lib.hid (show (!(p[i].toNat == 49)) = true by first | (rw [beq_eq_false_iff_ne.2 (by omega)]; rfl) | (rw [beq_iff_eq.2 (by omega)]; rfl))
    have g1 : ((p[i].toNat : Int) == 48) = true := by simp; omega
    clear e1 h8
    rw [HR.out]
    go_enter Try.func71, Try.ntmps71
    go_wp2
    go_ret
    exact ⟨rfl, Below.refl _ _⟩
  · have HR := Lib.hid (show (!(p[i].toNat == 49)) = false by first | (rw [beq_eq_false_iff_ne.2 (by omega)]; rfl) | (rw [beq_iff_eq.2 (by omega)]; rfl))
    have g1 : ((p[i].toNat : Int) == 48) = false := by simp; omega
    clear e1 h8
    rw [HR.out]
    go_enter Try.func71, Try.ntmps71
    go_wp2
    go_ret
    exact ⟨rfl, Below.refl _ _⟩
set_option maxHeartbeats 1000000 in
theorem specAndPredNot (p q : ByteArray) (w : World) (hp : p.size ≤ 1048576) (hq : q.size ≤ 1048576) (hbad : bitsB p 27 = false ∨ bitsB q 27 = false) :
    Calls Try.prog 14 #[.string p, .string q] w fun e w' => e = .returned (.tuple #[.string ⟨#[]⟩, .bool false]) ∧ Below w.heap.size w w' := by
  have hp' : p.size ≤ maxLen := by unfold maxLen; omega
  have hq' : q.size ≤ maxLen := by unfold maxLen; omega
  cases h1 : bitsB p 27 with
  | false =>
    have H1 := Lib.hid h1; clear h1 hbad
    go_enter Try.func14, Try.ntmps14
    go_wp2_with (go_at_call 38; refine (specPredValid _ _ (by assumption)).mono ?_; rintro e w' ⟨rfl, rfl⟩; first | rw [H1.out] | rw [H2.out])
    go_ret2
    exact ⟨rfl, by repeat (first | exact Below.refl _ _ | assumption | refine Below.alloc ?_ (by simp <;> omega) _ | refine Below.trans ?_ (Below.mono (by assumption) (by simp <;> omega)))⟩
  | true =>
    have h2 : bitsB q 27 = false := by rcases hbad with h | h; (rw [h1] at h; cases h); exact h
    have H1 := Lib.hid h1; have H2 := Lib.hid h2; clear h1 h2 hbad
    go_enter Try.func14, Try.ntmps14
    go_wp2_with (go_at_call 38; refine (specPredValid _ _ (by assumption)).mono ?_; rintro e w' ⟨rfl, rfl⟩; first | rw [H1.out] | rw [H2.out])
    go_ret2
    exact ⟨rfl, by repeat (first | exact Below.refl _ _ | assumption | refine Below.alloc ?_ (by simp <;> omega) _ | refine Below.trans ?_ (Below.mono (by assumption) (by simp <;> omega)))⟩
set_option maxHeartbeats 1000000 in
theorem specAndPred (p q : ByteArray) (w : World) (hp : p.size ≤ 1048576) (hq : q.size ≤ 1048576) (h1 : bitsB p 27 = true) (h2 : bitsB q 27 = true) :
    Calls Try.prog 14 #[.string p, .string q] w fun e w' => e = .returned (.tuple #[.string (mk 27 fun i => bt (one p i && one q i)), .bool true]) ∧ Below w.heap.size w w' := by
  have hp' : p.size ≤ maxLen := by unfold maxLen; omega
  have hq' : q.size ≤ maxLen := by unfold maxLen; omega
  have HPs := Lib.hid hp
  have HP := Lib.hid (show p.size = 27 by have := bits_size h1; omega)
  have HB := Lib.hid (fun k (hk : k < p.size) => bits_bit h1 hk)
  have H1 := Lib.hid h1
  have HQ := Lib.hid (show q.size = 27 by have := bits_size h2; omega)
  have HZ := Lib.hid (show q.size = p.size by rw [HP.out, HQ.out])
  have H2 := Lib.hid h2
  clear h2
  clear h1
  go_enter Try.func14, Try.ntmps14
  go_wp2_with (first
    | (go_at_call 38; refine (specPredValid _ _ (by assumption)).mono ?_; rintro e w' ⟨rfl, rfl⟩; first | rw [H1.out] | rw [H2.out])
    | (go_at_call 39; refine (specAnd _ _ _ HPs.out HZ.out).mono ?_; rintro e w1 ⟨rfl, hb1⟩; rw [HP.out]))
  go_ret2
  exact ⟨rfl, by repeat (first | exact Below.refl _ _ | assumption | refine Below.alloc ?_ (by simp <;> omega) _ | refine Below.trans ?_ (Below.mono (by assumption) (by simp <;> omega)))⟩
set_option maxHeartbeats 1000000 in
theorem implAndPredNot (p q : ByteArray) (w : World) (hp : p.size ≤ 1048576) (hq : q.size ≤ 1048576) (hbad : bitsB p 27 = false ∨ bitsB q 27 = false) :
    Calls Try.prog 15 #[.string p, .string q] w fun e w' => e = .returned (.tuple #[.string ⟨#[]⟩, .bool false]) ∧ Below w.heap.size w w' := by
  have hp' : p.size ≤ maxLen := by unfold maxLen; omega
  have hq' : q.size ≤ maxLen := by unfold maxLen; omega
  cases h1 : bitsB p 27 with
  | false =>
    have H1 := Lib.hid h1; clear h1 hbad
    go_enter Try.func15, Try.ntmps15
    go_wp2_with (go_at_call 40; refine (implPredValid _ _ (by assumption)).mono ?_; rintro e w' ⟨rfl, rfl⟩; first | rw [H1.out] | rw [H2.out])
    go_ret2
    exact ⟨rfl, by repeat (first | exact Below.refl _ _ | assumption | refine Below.alloc ?_ (by simp <;> omega) _ | refine Below.trans ?_ (Below.mono (by assumption) (by simp <;> omega)))⟩
  | true =>
    have h2 : bitsB q 27 = false := by rcases hbad with h | h; (rw [h1] at h; cases h); exact h
    have H1 := Lib.hid h1; have H2 := Lib.hid h2; clear h1 h2 hbad
    go_enter Try.func15, Try.ntmps15
    go_wp2_with (go_at_call 40; refine (implPredValid _ _ (by assumption)).mono ?_; rintro e w' ⟨rfl, rfl⟩; first | rw [H1.out] | rw [H2.out])
    go_ret2
    exact ⟨rfl, by repeat (first | exact Below.refl _ _ | assumption | refine Below.alloc ?_ (by simp <;> omega) _ | refine Below.trans ?_ (Below.mono (by assumption) (by simp <;> omega)))⟩
set_option maxHeartbeats 1000000 in
theorem implAndPred (p q : ByteArray) (w : World) (hp : p.size ≤ 1048576) (hq : q.size ≤ 1048576) (h1 : bitsB p 27 = true) (h2 : bitsB q 27 = true) :
    Calls Try.prog 15 #[.string p, .string q] w fun e w' => e = .returned (.tuple #[.string (mk 27 fun i => bt (one p i && one q i)), .bool true]) ∧ Below w.heap.size w w' := by
  have hp' : p.size ≤ maxLen := by unfold maxLen; omega
  have hq' : q.size ≤ maxLen := by unfold maxLen; omega
  have HPs := Lib.hid hp
  have HP := Lib.hid (show p.size = 27 by have := bits_size h1; omega)
  have HB := Lib.hid (fun k (hk : k < p.size) => bits_bit h1 hk)
  have H1 := Lib.hid h1
  have HQ := Lib.hid (show q.size = 27 by have := bits_size h2; omega)
  have HZ := Lib.hid (show q.size = p.size by rw [HP.out, HQ.out])
  have H2 := Lib.hid h2
  clear h2
  clear h1
  go_enter Try.func15, Try.ntmps15
  go_wp2_with (first
    | (go_at_call 40; refine (implPredValid _ _ (by assumption)).mono ?_; rintro e w' ⟨rfl, rfl⟩; first | rw [H1.out] | rw [H2.out])
    | (go_at_call 41; refine (makeSet _ _ _ _ (fun _ _ => by simp [go_sem]) (tells_AndPred 27 p q _ _ _ (by simp [World.cell?_alloc_at, World.cell?_alloc_past]) (by simp [World.cell?_alloc_at]) HP.out HQ.out)).mono ?_; rintro e w1 ⟨rfl, hb1⟩))
  go_ret2
  exact ⟨rfl, by repeat (first | exact Below.refl _ _ | assumption | refine Below.alloc ?_ (by simp <;> omega) _ | refine Below.trans ?_ (Below.mono (by assumption) (by simp <;> omega)))⟩
set_option maxHeartbeats 1000000 in
theorem specOrPredNot (p q : ByteArray) (w : World) (hp : p.size ≤ 1048576) (hq : q.size ≤ 1048576) (hbad : bitsB p 27 = false ∨ bitsB q 27 = false) :
    Calls Try.prog 18 #[.string p, .string q] w fun e w' => e = .returned (.tuple #[.string ⟨#[]⟩, .bool false]) ∧ Below w.heap.size w w' := by
  have hp' : p.size ≤ maxLen := by unfold maxLen; omega
  have hq' : q.size ≤ maxLen := by unfold maxLen; omega
  cases h1 : bitsB p 27 with
  | false =>
    have H1 := Lib.hid h1; clear h1 hbad
    go_enter Try.func18, Try.ntmps18
    go_wp2_with (go_at_call 38; refine (specPredValid _ _ (by assumption)).mono ?_; rintro e w' ⟨rfl, rfl⟩; first | rw [H1.out] | rw [H2.out])
    go_ret2
    exact ⟨rfl, by repeat (first | exact Below.refl _ _ | assumption | refine Below.alloc ?_ (by simp <;> omega) _ | refine Below.trans ?_ (Below.mono (by assumption) (by simp <;> omega)))⟩
  | true =>
    have h2 : bitsB q 27 = false := by rcases hbad with h | h; (rw [h1] at h; cases h); exact h
    have H1 := Lib.hid h1; have H2 := Lib.hid h2; clear h1 h2 hbad
    go_enter Try.func18, Try.ntmps18
    go_wp2_with (go_at_call 38; refine (specPredValid _ _ (by assumption)).mono ?_; rintro e w' ⟨rfl, rfl⟩; first | rw [H1.out] | rw [H2.out])
    go_ret2
    exact ⟨rfl, by repeat (first | exact Below.refl _ _ | assumption | refine Below.alloc ?_ (by simp <;> omega) _ | refine Below.trans ?_ (Below.mono (by assumption) (by simp <;> omega)))⟩
set_option maxHeartbeats 1000000 in
theorem specOrPred (p q : ByteArray) (w : World) (hp : p.size ≤ 1048576) (hq : q.size ≤ 1048576) (h1 : bitsB p 27 = true) (h2 : bitsB q 27 = true) :
    Calls Try.prog 18 #[.string p, .string q] w fun e w' => e = .returned (.tuple #[.string (mk 27 fun i => bt (one p i || one q i)), .bool true]) ∧ Below w.heap.size w w' := by
  have hp' : p.size ≤ maxLen := by unfold maxLen; omega
  have hq' : q.size ≤ maxLen := by unfold maxLen; omega
  have HPs := Lib.hid hp
  have HP := Lib.hid (show p.size = 27 by have := bits_size h1; omega)
  have HB := Lib.hid (fun k (hk : k < p.size) => bits_bit h1 hk)
  have H1 := Lib.hid h1
  have HQ := Lib.hid (show q.size = 27 by have := bits_size h2; omega)
  have HZ := Lib.hid (show q.size = p.size by rw [HP.out, HQ.out])
  have H2 := Lib.hid h2
  clear h2
  clear h1
  go_enter Try.func18, Try.ntmps18
  go_wp2_with (first
    | (go_at_call 38; refine (specPredValid _ _ (by assumption)).mono ?_; rintro e w' ⟨rfl, rfl⟩; first | rw [H1.out] | rw [H2.out])
    | (go_at_call 45; refine (specOr _ _ _ HPs.out HZ.out).mono ?_; rintro e w1 ⟨rfl, hb1⟩; rw [HP.out]))
  go_ret2
  exact ⟨rfl, by repeat (first | exact Below.refl _ _ | assumption | refine Below.alloc ?_ (by simp <;> omega) _ | refine Below.trans ?_ (Below.mono (by assumption) (by simp <;> omega)))⟩
set_option maxHeartbeats 1000000 in
theorem implOrPredNot (p q : ByteArray) (w : World) (hp : p.size ≤ 1048576) (hq : q.size ≤ 1048576) (hbad : bitsB p 27 = false ∨ bitsB q 27 = false) :
    Calls Try.prog 19 #[.string p, .string q] w fun e w' => e = .returned (.tuple #[.string ⟨#[]⟩, .bool false]) ∧ Below w.heap.size w w' := by
  have hp' : p.size ≤ maxLen := by unfold maxLen; omega
  have hq' : q.size ≤ maxLen := by unfold maxLen; omega
  cases h1 : bitsB p 27 with
  | false =>
    have H1 := Lib.hid h1; clear h1 hbad
    go_enter Try.func19, Try.ntmps19
    go_wp2_with (go_at_call 40; refine (implPredValid _ _ (by assumption)).mono ?_; rintro e w' ⟨rfl, rfl⟩; first | rw [H1.out] | rw [H2.out])
    go_ret2
    exact ⟨rfl, by repeat (first | exact Below.refl _ _ | assumption | refine Below.alloc ?_ (by simp <;> omega) _ | refine Below.trans ?_ (Below.mono (by assumption) (by simp <;> omega)))⟩
  | true =>
    have h2 : bitsB q 27 = false := by rcases hbad with h | h; (rw [h1] at h; cases h); exact h
    have H1 := Lib.hid h1; have H2 := Lib.hid h2; clear h1 h2 hbad
    go_enter Try.func19, Try.ntmps19
    go_wp2_with (go_at_call 40; refine (implPredValid _ _ (by assumption)).mono ?_; rintro e w' ⟨rfl, rfl⟩; first | rw [H1.out] | rw [H2.out])
    go_ret2
    exact ⟨rfl, by repeat (first | exact Below.refl _ _ | assumption | refine Below.alloc ?_ (by simp <;> omega) _ | refine Below.trans ?_ (Below.mono (by assumption) (by simp <;> omega)))⟩
set_option maxHeartbeats 1000000 in
theorem implOrPred (p q : ByteArray) (w : World) (hp : p.size ≤ 1048576) (hq : q.size ≤ 1048576) (h1 : bitsB p 27 = true) (h2 : bitsB q 27 = true) :
    Calls Try.prog 19 #[.string p, .string q] w fun e w' => e = .returned (.tuple #[.string (mk 27 fun i => bt (one p i || one q i)), .bool true]) ∧ Below w.heap.size w w' := by
  have hp' : p.size ≤ maxLen := by unfold maxLen; omega
  have hq' : q.size ≤ maxLen := by unfold maxLen; omega
  have HPs := Lib.hid hp
  have HP := Lib.hid (show p.size = 27 by have := bits_size h1; omega)
  have HB := Lib.hid (fun k (hk : k < p.size) => bits_bit h1 hk)
  have H1 := Lib.hid h1
  have HQ := Lib.hid (show q.size = 27 by have := bits_size h2; omega)
  have HZ := Lib.hid (show q.size = p.size by rw [HP.out, HQ.out])
  have H2 := Lib.hid h2
  clear h2
  clear h1
  go_enter Try.func19, Try.ntmps19
  go_wp2_with (first
    | (go_at_call 40; refine (implPredValid _ _ (by assumption)).mono ?_; rintro e w' ⟨rfl, rfl⟩; first | rw [H1.out] | rw [H2.out])
    | (go_at_call 41; refine (makeSet _ _ _ _ (fun _ _ => by simp [go_sem]) (tells_OrPred 27 p q _ _ _ (by simp [World.cell?_alloc_at, World.cell?_alloc_past]) (by simp [World.cell?_alloc_at]) HP.out HQ.out)).mono ?_; rintro e w1 ⟨rfl, hb1⟩))
  go_ret2
  exact ⟨rfl, by repeat (first | exact Below.refl _ _ | assumption | refine Below.alloc ?_ (by simp <;> omega) _ | refine Below.trans ?_ (Below.mono (by assumption) (by simp <;> omega)))⟩
set_option maxHeartbeats 1000000 in
theorem specNotPredNot (p : ByteArray) (w : World) (hp : p.size ≤ 1048576) (hbad : bitsB p 27 = false) :
    Calls Try.prog 16 #[.string p] w fun e w' => e = .returned (.tuple #[.string ⟨#[]⟩, .bool false]) ∧ Below w.heap.size w w' := by
  have hp' : p.size ≤ maxLen := by unfold maxLen; omega
  have H1 := Lib.hid hbad; clear hbad
  go_enter Try.func16, Try.ntmps16
  go_wp2_with (go_at_call 38; refine (specPredValid _ _ (by assumption)).mono ?_; rintro e w' ⟨rfl, rfl⟩; first | rw [H1.out] | rw [H2.out])
  go_ret2
  exact ⟨rfl, by repeat (first | exact Below.refl _ _ | assumption | refine Below.alloc ?_ (by simp <;> omega) _ | refine Below.trans ?_ (Below.mono (by assumption) (by simp <;> omega)))⟩
set_option maxHeartbeats 1000000 in
theorem specNotPred (p : ByteArray) (w : World) (hp : p.size ≤ 1048576) (h1 : bitsB p 27 = true) :
    Calls Try.prog 16 #[.string p] w fun e w' => e = .returned (.tuple #[.string (mk 27 fun i => bt (!one p i)), .bool true]) ∧ Below w.heap.size w w' := by
  have hp' : p.size ≤ maxLen := by unfold maxLen; omega
  have HPs := Lib.hid hp
  have HP := Lib.hid (show p.size = 27 by have := bits_size h1; omega)
  have HB := Lib.hid (fun k (hk : k < p.size) => bits_bit h1 hk)
  have H1 := Lib.hid h1
  clear h1
  go_enter Try.func16, Try.ntmps16
  go_wp2_with (first
    | (go_at_call 38; refine (specPredValid _ _ (by assumption)).mono ?_; rintro e w' ⟨rfl, rfl⟩; first | rw [H1.out] | rw [H2.out])
    | (go_at_call 43; refine (specNot _ _ HPs.out HB.out).mono ?_; rintro e w1 ⟨rfl, hb1⟩; rw [HP.out]))
  go_ret2
  exact ⟨rfl, by repeat (first | exact Below.refl _ _ | assumption | refine Below.alloc ?_ (by simp <;> omega) _ | refine Below.trans ?_ (Below.mono (by assumption) (by simp <;> omega)))⟩
set_option maxHeartbeats 1000000 in
theorem implNotPredNot (p : ByteArray) (w : World) (hp : p.size ≤ 1048576) (hbad : bitsB p 27 = false) :
    Calls Try.prog 17 #[.string p] w fun e w' => e = .returned (.tuple #[.string ⟨#[]⟩, .bool false]) ∧ Below w.heap.size w w' := by
  have hp' : p.size ≤ maxLen := by unfold maxLen; omega
  have H1 := Lib.hid hbad; clear hbad
  go_enter Try.func17, Try.ntmps17
  go_wp2_with (go_at_call 40; refine (implPredValid _ _ (by assumption)).mono ?_; rintro e w' ⟨rfl, rfl⟩; first | rw [H1.out] | rw [H2.out])
  go_ret2
  exact ⟨rfl, by repeat (first | exact Below.refl _ _ | assumption | refine Below.alloc ?_ (by simp <;> omega) _ | refine Below.trans ?_ (Below.mono (by assumption) (by simp <;> omega)))⟩
set_option maxHeartbeats 1000000 in
theorem implNotPred (p : ByteArray) (w : World) (hp : p.size ≤ 1048576) (h1 : bitsB p 27 = true) :
    Calls Try.prog 17 #[.string p] w fun e w' => e = .returned (.tuple #[.string (mk 27 fun i => bt (!one p i)), .bool true]) ∧ Below w.heap.size w w' := by
  have hp' : p.size ≤ maxLen := by unfold maxLen; omega
  have HPs := Lib.hid hp
  have HP := Lib.hid (show p.size = 27 by have := bits_size h1; omega)
  have HB := Lib.hid (fun k (hk : k < p.size) => bits_bit h1 hk)
  have H1 := Lib.hid h1
  clear h1
  go_enter Try.func17, Try.ntmps17
  go_wp2_with (first
    | (go_at_call 40; refine (implPredValid _ _ (by assumption)).mono ?_; rintro e w' ⟨rfl, rfl⟩; first | rw [H1.out] | rw [H2.out])
    | (go_at_call 41; refine (makeSet _ _ _ _ (fun _ _ => by simp [go_sem]) (tells_NotPred 27 p _ _  (by simp [World.cell?_alloc_at]) HP.out HB.out)).mono ?_; rintro e w1 ⟨rfl, hb1⟩))
  go_ret2
  exact ⟨rfl, by repeat (first | exact Below.refl _ _ | assumption | refine Below.alloc ?_ (by simp <;> omega) _ | refine Below.trans ?_ (Below.mono (by assumption) (by simp <;> omega)))⟩
set_option maxHeartbeats 1000000 in
theorem impl_andRel (p q : ByteArray) (w : World) (hp : p.size = 729) (hq : q.size = 729) :
    Calls Try.prog 49 #[.string p, .string q] w fun e w' => e = .returned (.string (mk 729 fun i => bt (one p i && one q i))) ∧ Below w.heap.size w w' := by
  have HP := Lib.hid hp; clear hp
  have HQ := Lib.hid hq; clear hq
  go_enter Try.func49, Try.ntmps49
  go_wp2_with (go_at_call 69; refine (makeBits 729 _ _ _ _ (by omega) (fun _ _ => by simp [go_sem]) (tells_andRel 729 p q _ _ _ (by simp [World.cell?_alloc_at, World.cell?_alloc_past]) (by simp [World.cell?_alloc_at]) HP.out HQ.out)).mono ?_; rintro e w1 ⟨rfl, hb1⟩)
  go_ret
  exact ⟨rfl, by repeat (first | exact Below.refl _ _ | assumption | refine Below.alloc ?_ (by simp <;> omega) _ | refine Below.trans ?_ (Below.mono (by assumption) (by simp <;> omega)))⟩
set_option maxHeartbeats 1000000 in
theorem specAndRelNot (p q : ByteArray) (w : World) (hp : p.size ≤ 1048576) (hq : q.size ≤ 1048576) (hbad : bitsB p 729 = false ∨ bitsB q 729 = false) :
    Calls Try.prog 20 #[.string p, .string q] w fun e w' => e = .returned (.tuple #[.string ⟨#[]⟩, .bool false]) ∧ Below w.heap.size w w' := by
  have hp' : p.size ≤ maxLen := by unfold maxLen; omega
  have hq' : q.size ≤ maxLen := by unfold maxLen; omega
  cases h1 : bitsB p 729 with
  | false =>
    have H1 := Lib.hid h1; clear h1 hbad
    go_enter Try.func20, Try.ntmps20
    go_wp2_with (go_at_call 47; refine (specRelValid _ _ (by assumption)).mono ?_; rintro e w' ⟨rfl, rfl⟩; first | rw [H1.out] | rw [H2.out])
    go_ret2
    exact ⟨rfl, by repeat (first | exact Below.refl _ _ | assumption | refine Below.alloc ?_ (by simp <;> omega) _ | refine Below.trans ?_ (Below.mono (by assumption) (by simp <;> omega)))⟩
  | true =>
    have h2 : bitsB q 729 = false := by rcases hbad with h | h; (rw [h1] at h; cases h); exact h
    have H1 := Lib.hid h1; have H2 := Lib.hid h2; clear h1 h2 hbad
    go_enter Try.func20, Try.ntmps20
    go_wp2_with (go_at_call 47; refine (specRelValid _ _ (by assumption)).mono ?_; rintro e w' ⟨rfl, rfl⟩; first | rw [H1.out] | rw [H2.out])
    go_ret2
    exact ⟨rfl, by repeat (first | exact Below.refl _ _ | assumption | refine Below.alloc ?_ (by simp <;> omega) _ | refine Below.trans ?_ (Below.mono (by assumption) (by simp <;> omega)))⟩
set_option maxHeartbeats 1000000 in
theorem specAndRel (p q : ByteArray) (w : World) (hp : p.size ≤ 1048576) (hq : q.size ≤ 1048576) (h1 : bitsB p 729 = true) (h2 : bitsB q 729 = true) :
    Calls Try.prog 20 #[.string p, .string q] w fun e w' => e = .returned (.tuple #[.string (mk 729 fun i => bt (one p i && one q i)), .bool true]) ∧ Below w.heap.size w w' := by
  have hp' : p.size ≤ maxLen := by unfold maxLen; omega
  have hq' : q.size ≤ maxLen := by unfold maxLen; omega
  have HPs := Lib.hid hp
  have HP := Lib.hid (show p.size = 729 by have := bits_size h1; omega)
  have HB := Lib.hid (fun k (hk : k < p.size) => bits_bit h1 hk)
  have H1 := Lib.hid h1
  have HQ := Lib.hid (show q.size = 729 by have := bits_size h2; omega)
  have HZ := Lib.hid (show q.size = p.size by rw [HP.out, HQ.out])
  have H2 := Lib.hid h2
  clear h2
  clear h1
  go_enter Try.func20, Try.ntmps20
  go_wp2_with (first
    | (go_at_call 47; refine (specRelValid _ _ (by assumption)).mono ?_; rintro e w' ⟨rfl, rfl⟩; first | rw [H1.out] | rw [H2.out])
    | (go_at_call 39; refine (specAnd _ _ _ HPs.out HZ.out).mono ?_; rintro e w1 ⟨rfl, hb1⟩; rw [HP.out]))
  go_ret2
  exact ⟨rfl, by repeat (first | exact Below.refl _ _ | assumption | refine Below.alloc ?_ (by simp <;> omega) _ | refine Below.trans ?_ (Below.mono (by assumption) (by simp <;> omega)))⟩
set_option maxHeartbeats 1000000 in
theorem implAndRelNot (p q : ByteArray) (w : World) (hp : p.size ≤ 1048576) (hq : q.size ≤ 1048576) (hbad : bitsB p 729 = false ∨ bitsB q 729 = false) :
    Calls Try.prog 21 #[.string p, .string q] w fun e w' => e = .returned (.tuple #[.string ⟨#[]⟩, .bool false]) ∧ Below w.heap.size w w' := by
  have hp' : p.size ≤ maxLen := by unfold maxLen; omega
  have hq' : q.size ≤ maxLen := by unfold maxLen; omega
  cases h1 : bitsB p 729 with
  | false =>
    have H1 := Lib.hid h1; clear h1 hbad
    go_enter Try.func21, Try.ntmps21
    go_wp2_with (go_at_call 48; refine (implRelValid _ _ (by assumption)).mono ?_; rintro e w' ⟨rfl, rfl⟩; first | rw [H1.out] | rw [H2.out])
    go_ret2
    exact ⟨rfl, by repeat (first | exact Below.refl _ _ | assumption | refine Below.alloc ?_ (by simp <;> omega) _ | refine Below.trans ?_ (Below.mono (by assumption) (by simp <;> omega)))⟩
  | true =>
    have h2 : bitsB q 729 = false := by rcases hbad with h | h; (rw [h1] at h; cases h); exact h
    have H1 := Lib.hid h1; have H2 := Lib.hid h2; clear h1 h2 hbad
    go_enter Try.func21, Try.ntmps21
    go_wp2_with (go_at_call 48; refine (implRelValid _ _ (by assumption)).mono ?_; rintro e w' ⟨rfl, rfl⟩; first | rw [H1.out] | rw [H2.out])
    go_ret2
    exact ⟨rfl, by repeat (first | exact Below.refl _ _ | assumption | refine Below.alloc ?_ (by simp <;> omega) _ | refine Below.trans ?_ (Below.mono (by assumption) (by simp <;> omega)))⟩
set_option maxHeartbeats 1000000 in
theorem implAndRel (p q : ByteArray) (w : World) (hp : p.size ≤ 1048576) (hq : q.size ≤ 1048576) (h1 : bitsB p 729 = true) (h2 : bitsB q 729 = true) :
    Calls Try.prog 21 #[.string p, .string q] w fun e w' => e = .returned (.tuple #[.string (mk 729 fun i => bt (one p i && one q i)), .bool true]) ∧ Below w.heap.size w w' := by
  have hp' : p.size ≤ maxLen := by unfold maxLen; omega
  have hq' : q.size ≤ maxLen := by unfold maxLen; omega
  have HPs := Lib.hid hp
  have HP := Lib.hid (show p.size = 729 by have := bits_size h1; omega)
  have HB := Lib.hid (fun k (hk : k < p.size) => bits_bit h1 hk)
  have H1 := Lib.hid h1
  have HQ := Lib.hid (show q.size = 729 by have := bits_size h2; omega)
  have HZ := Lib.hid (show q.size = p.size by rw [HP.out, HQ.out])
  have H2 := Lib.hid h2
  clear h2
  clear h1
  go_enter Try.func21, Try.ntmps21
  go_wp2_with (first
    | (go_at_call 48; refine (implRelValid _ _ (by assumption)).mono ?_; rintro e w' ⟨rfl, rfl⟩; first | rw [H1.out] | rw [H2.out])
    | (go_at_call 49; refine (impl_andRel _ _ _ HP.out HQ.out).mono ?_; rintro e w1 ⟨rfl, hb1⟩))
  go_ret2
  exact ⟨rfl, by repeat (first | exact Below.refl _ _ | assumption | refine Below.alloc ?_ (by simp <;> omega) _ | refine Below.trans ?_ (Below.mono (by assumption) (by simp <;> omega)))⟩
set_option maxHeartbeats 1000000 in
theorem impl_orRel (p q : ByteArray) (w : World) (hp : p.size = 729) (hq : q.size = 729) :
    Calls Try.prog 51 #[.string p, .string q] w fun e w' => e = .returned (.string (mk 729 fun i => bt (one p i || one q i))) ∧ Below w.heap.size w w' := by
  have HP := Lib.hid hp; clear hp
  have HQ := Lib.hid hq; clear hq
  go_enter Try.func51, Try.ntmps51
  go_wp2_with (go_at_call 69; refine (makeBits 729 _ _ _ _ (by omega) (fun _ _ => by simp [go_sem]) (tells_orRel 729 p q _ _ _ (by simp [World.cell?_alloc_at, World.cell?_alloc_past]) (by simp [World.cell?_alloc_at]) HP.out HQ.out)).mono ?_; rintro e w1 ⟨rfl, hb1⟩)
  go_ret
  exact ⟨rfl, by repeat (first | exact Below.refl _ _ | assumption | refine Below.alloc ?_ (by simp <;> omega) _ | refine Below.trans ?_ (Below.mono (by assumption) (by simp <;> omega)))⟩
set_option maxHeartbeats 1000000 in
theorem specOrRelNot (p q : ByteArray) (w : World) (hp : p.size ≤ 1048576) (hq : q.size ≤ 1048576) (hbad : bitsB p 729 = false ∨ bitsB q 729 = false) :
    Calls Try.prog 24 #[.string p, .string q] w fun e w' => e = .returned (.tuple #[.string ⟨#[]⟩, .bool false]) ∧ Below w.heap.size w w' := by
  have hp' : p.size ≤ maxLen := by unfold maxLen; omega
  have hq' : q.size ≤ maxLen := by unfold maxLen; omega
  cases h1 : bitsB p 729 with
  | false =>
    have H1 := Lib.hid h1; clear h1 hbad
    go_enter Try.func24, Try.ntmps24
    go_wp2_with (go_at_call 47; refine (specRelValid _ _ (by assumption)).mono ?_; rintro e w' ⟨rfl, rfl⟩; first | rw [H1.out] | rw [H2.out])
    go_ret2
    exact ⟨rfl, by repeat (first | exact Below.refl _ _ | assumption | refine Below.alloc ?_ (by simp <;> omega) _ | refine Below.trans ?_ (Below.mono (by assumption) (by simp <;> omega)))⟩
  | true =>
    have h2 : bitsB q 729 = false := by rcases hbad with h | h; (rw [h1] at h; cases h); exact h
    have H1 := Lib.hid h1; have H2 := Lib.hid h2; clear h1 h2 hbad
    go_enter Try.func24, Try.ntmps24
    go_wp2_with (go_at_call 47; refine (specRelValid _ _ (by assumption)).mono ?_; rintro e w' ⟨rfl, rfl⟩; first | rw [H1.out] | rw [H2.out])
    go_ret2
    exact ⟨rfl, by repeat (first | exact Below.refl _ _ | assumption | refine Below.alloc ?_ (by simp <;> omega) _ | refine Below.trans ?_ (Below.mono (by assumption) (by simp <;> omega)))⟩
set_option maxHeartbeats 1000000 in
theorem specOrRel (p q : ByteArray) (w : World) (hp : p.size ≤ 1048576) (hq : q.size ≤ 1048576) (h1 : bitsB p 729 = true) (h2 : bitsB q 729 = true) :
    Calls Try.prog 24 #[.string p, .string q] w fun e w' => e = .returned (.tuple #[.string (mk 729 fun i => bt (one p i || one q i)), .bool true]) ∧ Below w.heap.size w w' := by
  have hp' : p.size ≤ maxLen := by unfold maxLen; omega
  have hq' : q.size ≤ maxLen := by unfold maxLen; omega
  have HPs := Lib.hid hp
  have HP := Lib.hid (show p.size = 729 by have := bits_size h1; omega)
  have HB := Lib.hid (fun k (hk : k < p.size) => bits_bit h1 hk)
  have H1 := Lib.hid h1
  have HQ := Lib.hid (show q.size = 729 by have := bits_size h2; omega)
  have HZ := Lib.hid (show q.size = p.size by rw [HP.out, HQ.out])
  have H2 := Lib.hid h2
  clear h2
  clear h1
  go_enter Try.func24, Try.ntmps24
  go_wp2_with (first
    | (go_at_call 47; refine (specRelValid _ _ (by assumption)).mono ?_; rintro e w' ⟨rfl, rfl⟩; first | rw [H1.out] | rw [H2.out])
    | (go_at_call 45; refine (specOr _ _ _ HPs.out HZ.out).mono ?_; rintro e w1 ⟨rfl, hb1⟩; rw [HP.out]))
  go_ret2
  exact ⟨rfl, by repeat (first | exact Below.refl _ _ | assumption | refine Below.alloc ?_ (by simp <;> omega) _ | refine Below.trans ?_ (Below.mono (by assumption) (by simp <;> omega)))⟩
set_option maxHeartbeats 1000000 in
theorem implOrRelNot (p q : ByteArray) (w : World) (hp : p.size ≤ 1048576) (hq : q.size ≤ 1048576) (hbad : bitsB p 729 = false ∨ bitsB q 729 = false) :
    Calls Try.prog 25 #[.string p, .string q] w fun e w' => e = .returned (.tuple #[.string ⟨#[]⟩, .bool false]) ∧ Below w.heap.size w w' := by
  have hp' : p.size ≤ maxLen := by unfold maxLen; omega
  have hq' : q.size ≤ maxLen := by unfold maxLen; omega
  cases h1 : bitsB p 729 with
  | false =>
    have H1 := Lib.hid h1; clear h1 hbad
    go_enter Try.func25, Try.ntmps25
    go_wp2_with (go_at_call 48; refine (implRelValid _ _ (by assumption)).mono ?_; rintro e w' ⟨rfl, rfl⟩; first | rw [H1.out] | rw [H2.out])
    go_ret2
    exact ⟨rfl, by repeat (first | exact Below.refl _ _ | assumption | refine Below.alloc ?_ (by simp <;> omega) _ | refine Below.trans ?_ (Below.mono (by assumption) (by simp <;> omega)))⟩
  | true =>
    have h2 : bitsB q 729 = false := by rcases hbad with h | h; (rw [h1] at h; cases h); exact h
    have H1 := Lib.hid h1; have H2 := Lib.hid h2; clear h1 h2 hbad
    go_enter Try.func25, Try.ntmps25
    go_wp2_with (go_at_call 48; refine (implRelValid _ _ (by assumption)).mono ?_; rintro e w' ⟨rfl, rfl⟩; first | rw [H1.out] | rw [H2.out])
    go_ret2
    exact ⟨rfl, by repeat (first | exact Below.refl _ _ | assumption | refine Below.alloc ?_ (by simp <;> omega) _ | refine Below.trans ?_ (Below.mono (by assumption) (by simp <;> omega)))⟩
set_option maxHeartbeats 1000000 in
theorem implOrRel (p q : ByteArray) (w : World) (hp : p.size ≤ 1048576) (hq : q.size ≤ 1048576) (h1 : bitsB p 729 = true) (h2 : bitsB q 729 = true) :
    Calls Try.prog 25 #[.string p, .string q] w fun e w' => e = .returned (.tuple #[.string (mk 729 fun i => bt (one p i || one q i)), .bool true]) ∧ Below w.heap.size w w' := by
  have hp' : p.size ≤ maxLen := by unfold maxLen; omega
  have hq' : q.size ≤ maxLen := by unfold maxLen; omega
  have HPs := Lib.hid hp
  have HP := Lib.hid (show p.size = 729 by have := bits_size h1; omega)
  have HB := Lib.hid (fun k (hk : k < p.size) => bits_bit h1 hk)
  have H1 := Lib.hid h1
  have HQ := Lib.hid (show q.size = 729 by have := bits_size h2; omega)
  have HZ := Lib.hid (show q.size = p.size by rw [HP.out, HQ.out])
  have H2 := Lib.hid h2
  clear h2
  clear h1
  go_enter Try.func25, Try.ntmps25
  go_wp2_with (first
    | (go_at_call 48; refine (implRelValid _ _ (by assumption)).mono ?_; rintro e w' ⟨rfl, rfl⟩; first | rw [H1.out] | rw [H2.out])
    | (go_at_call 51; refine (impl_orRel _ _ _ HP.out HQ.out).mono ?_; rintro e w1 ⟨rfl, hb1⟩))
  go_ret2
  exact ⟨rfl, by repeat (first | exact Below.refl _ _ | assumption | refine Below.alloc ?_ (by simp <;> omega) _ | refine Below.trans ?_ (Below.mono (by assumption) (by simp <;> omega)))⟩
set_option maxHeartbeats 1000000 in
theorem impl_notRel (p : ByteArray) (w : World) (hp : p.size = 729) (hbit : ∀ k (hk : k < p.size), p[k].toNat = 48 ∨ p[k].toNat = 49) :
    Calls Try.prog 50 #[.string p] w fun e w' => e = .returned (.string (mk 729 fun i => bt (!one p i))) ∧ Below w.heap.size w w' := by
  have HP := Lib.hid hp; clear hp
  have HQ := Lib.hid hbit; clear hbit
  go_enter Try.func50, Try.ntmps50
  go_wp2_with (go_at_call 69; refine (makeBits 729 _ _ _ _ (by omega) (fun _ _ => by simp [go_sem]) (tells_notRel 729 p _ _  (by simp [World.cell?_alloc_at]) HP.out HQ.out)).mono ?_; rintro e w1 ⟨rfl, hb1⟩)
  go_ret
  exact ⟨rfl, by repeat (first | exact Below.refl _ _ | assumption | refine Below.alloc ?_ (by simp <;> omega) _ | refine Below.trans ?_ (Below.mono (by assumption) (by simp <;> omega)))⟩
set_option maxHeartbeats 1000000 in
theorem specNotRelNot (p : ByteArray) (w : World) (hp : p.size ≤ 1048576) (hbad : bitsB p 729 = false) :
    Calls Try.prog 22 #[.string p] w fun e w' => e = .returned (.tuple #[.string ⟨#[]⟩, .bool false]) ∧ Below w.heap.size w w' := by
  have hp' : p.size ≤ maxLen := by unfold maxLen; omega
  have H1 := Lib.hid hbad; clear hbad
  go_enter Try.func22, Try.ntmps22
  go_wp2_with (go_at_call 47; refine (specRelValid _ _ (by assumption)).mono ?_; rintro e w' ⟨rfl, rfl⟩; first | rw [H1.out] | rw [H2.out])
  go_ret2
  exact ⟨rfl, by repeat (first | exact Below.refl _ _ | assumption | refine Below.alloc ?_ (by simp <;> omega) _ | refine Below.trans ?_ (Below.mono (by assumption) (by simp <;> omega)))⟩
set_option maxHeartbeats 1000000 in
theorem specNotRel (p : ByteArray) (w : World) (hp : p.size ≤ 1048576) (h1 : bitsB p 729 = true) :
    Calls Try.prog 22 #[.string p] w fun e w' => e = .returned (.tuple #[.string (mk 729 fun i => bt (!one p i)), .bool true]) ∧ Below w.heap.size w w' := by
  have hp' : p.size ≤ maxLen := by unfold maxLen; omega
  have HPs := Lib.hid hp
  have HP := Lib.hid (show p.size = 729 by have := bits_size h1; omega)
  have HB := Lib.hid (fun k (hk : k < p.size) => bits_bit h1 hk)
  have H1 := Lib.hid h1
  clear h1
  go_enter Try.func22, Try.ntmps22
  go_wp2_with (first
    | (go_at_call 47; refine (specRelValid _ _ (by assumption)).mono ?_; rintro e w' ⟨rfl, rfl⟩; first | rw [H1.out] | rw [H2.out])
    | (go_at_call 43; refine (specNot _ _ HPs.out HB.out).mono ?_; rintro e w1 ⟨rfl, hb1⟩; rw [HP.out]))
  go_ret2
  exact ⟨rfl, by repeat (first | exact Below.refl _ _ | assumption | refine Below.alloc ?_ (by simp <;> omega) _ | refine Below.trans ?_ (Below.mono (by assumption) (by simp <;> omega)))⟩
set_option maxHeartbeats 1000000 in
theorem implNotRelNot (p : ByteArray) (w : World) (hp : p.size ≤ 1048576) (hbad : bitsB p 729 = false) :
    Calls Try.prog 23 #[.string p] w fun e w' => e = .returned (.tuple #[.string ⟨#[]⟩, .bool false]) ∧ Below w.heap.size w w' := by
  have hp' : p.size ≤ maxLen := by unfold maxLen; omega
  have H1 := Lib.hid hbad; clear hbad
  go_enter Try.func23, Try.ntmps23
  go_wp2_with (go_at_call 48; refine (implRelValid _ _ (by assumption)).mono ?_; rintro e w' ⟨rfl, rfl⟩; first | rw [H1.out] | rw [H2.out])
  go_ret2
  exact ⟨rfl, by repeat (first | exact Below.refl _ _ | assumption | refine Below.alloc ?_ (by simp <;> omega) _ | refine Below.trans ?_ (Below.mono (by assumption) (by simp <;> omega)))⟩
set_option maxHeartbeats 1000000 in
theorem implNotRel (p : ByteArray) (w : World) (hp : p.size ≤ 1048576) (h1 : bitsB p 729 = true) :
    Calls Try.prog 23 #[.string p] w fun e w' => e = .returned (.tuple #[.string (mk 729 fun i => bt (!one p i)), .bool true]) ∧ Below w.heap.size w w' := by
  have hp' : p.size ≤ maxLen := by unfold maxLen; omega
  have HPs := Lib.hid hp
  have HP := Lib.hid (show p.size = 729 by have := bits_size h1; omega)
  have HB := Lib.hid (fun k (hk : k < p.size) => bits_bit h1 hk)
  have H1 := Lib.hid h1
  clear h1
  go_enter Try.func23, Try.ntmps23
  go_wp2_with (first
    | (go_at_call 48; refine (implRelValid _ _ (by assumption)).mono ?_; rintro e w' ⟨rfl, rfl⟩; first | rw [H1.out] | rw [H2.out])
    | (go_at_call 50; refine (impl_notRel _ _ HP.out HB.out).mono ?_; rintro e w1 ⟨rfl, hb1⟩))
  go_ret2
  exact ⟨rfl, by repeat (first | exact Below.refl _ _ | assumption | refine Below.alloc ?_ (by simp <;> omega) _ | refine Below.trans ?_ (Below.mono (by assumption) (by simp <;> omega)))⟩
end Go.Proofs.Ytinnkkhpgcmbhaa.Bo
