/- Contracts: values of expressions. -/
import Derived.Test.YtaimlfhbcgocnaaDoorSw
import Derived.Test.YtaimlfhbcgocnaaDoorEnv
namespace Go.Proofs.YtaimlfhbcgocnaaDoor.Vl
open Go.RowKit Go.Deep Go.Proofs.YtaimlfhbcgocnaaDoor.Pl Go.Proofs.YtaimlfhbcgocnaaDoor.Bi Go.Proofs.YtaimlfhbcgocnaaDoor.Fi Go.Proofs.YtaimlfhbcgocnaaDoor.Ed Go.Proofs.YtaimlfhbcgocnaaDoor.Ps Go.Proofs.YtaimlfhbcgocnaaDoor.Sw Go.Proofs.YtaimlfhbcgocnaaDoor.St Go.Proofs.YtaimlfhbcgocnaaDoor.En
set_option linter.unusedVariables false

theorem vr_cases {wide : Bool} {b : Nat} (h : vrB wide b = true) : b = 120 ∨ b = 121 ∨ b = 122 ∨ b = 88 ∨ b = 89 ∨ b = 90 := by
  cases wide <;> simp [vrB] at h <;> omega
theorem slot_lt {wide : Bool} {b : Nat} (h : vrB wide b = true) : slotOf b < 6 := by
  rcases vr_cases h with h | h | h | h | h | h <;> subst h <;> decide
theorem find_var {wide : Bool} {b : UInt8} (h : vrB wide b.toNat = true) : Lib.indexByte [120, 121, 122, 88, 89, 90] b = (slotOf b.toNat : Int) := by
  rcases vr_cases h with h | h | h | h | h | h <;> (rw [byte_eq (by decide) h]; decide)
theorem find_novar {b : UInt8} (h : vrB true b.toNat = false) : Lib.indexByte [120, 121, 122, 88, 89, 90] b = -1 := (names_var true b).2 h
theorem vr_dig {b : Nat} (h : dgB b = true) : vrB true b = false := by simp [dgB] at h; simp [vrB]; omega
theorem vr_op {b : Nat} (h : b = 43 ∨ b = 45 ∨ b = 42) : vrB true b = false := by simp [vrB]; omega
theorem tmod3 {v : Int} (h : 0 ≤ v) : v.tmod 3 = v % 3 := Int.tmod_eq_emod_of_nonneg h

theorem implSlot (b : UInt8) (w : World) (h : vrB true b.toNat = true) : Calls Tryd.prog 20 #[.int .u8 (b.toNat : Int)] w fun e w' => e = .returned (.int .i64 (slotOf b.toNat : Int)) ∧ w' = w := by
  rcases vr_cases h with h | h | h | h | h | h <;> (
    rw [h]
    go_enter Tryd.func20, Tryd.ntmps20
    go_wp2
    go_ret
    exact ⟨rfl, rfl⟩)
/-- Six values lie at a block. -/
def envAt (w : World) (q : Nat) (env : Nat → Int) : Prop := ∀ i, i < 6 → w.cell? ⟨q, i, none⟩ = some (.int .i64 (env i))
def rng (env : Nat → Int) : Prop := ∀ i, 0 ≤ env i ∧ env i ≤ 2
theorem env_after {w w1 : World} {t : TypeId} {a b c d e f : Value} (h : Below (w.alloc (.cells #[a, b, c, d, e, f] t)).heap.size (w.alloc (.cells #[a, b, c, d, e, f] t)) w1) :
    w1.cell? ⟨w.heap.size, 0, none⟩ = some a ∧ w1.cell? ⟨w.heap.size, 1, none⟩ = some b ∧ w1.cell? ⟨w.heap.size, 2, none⟩ = some c ∧ w1.cell? ⟨w.heap.size, 3, none⟩ = some d ∧ w1.cell? ⟨w.heap.size, 4, none⟩ = some e ∧ w1.cell? ⟨w.heap.size, 5, none⟩ = some f ∧ Below w.heap.size w w1 := by
  have hn := heap_alloc_new w (.cells #[a, b, c, d, e, f] t)
  have hl := lt_of_block hn
  have hb : w1.heap[w.heap.size]? = some (.cells #[a, b, c, d, e, f] t) := by rw [h.block _ hl]; exact hn
  exact ⟨cell_of_block hb 0, cell_of_block hb 1, cell_of_block hb 2, cell_of_block hb 3, cell_of_block hb 4, cell_of_block hb 5, ((Below.refl _ _).alloc (Nat.le_refl _) _).trans (h.mono (by simp))⟩
set_option maxHeartbeats 4000000 in
theorem specValue (s : ByteArray) (hs : s.size ≤ 1000) (wide : Bool) (env : Nat → Int) (henv : rng env) (n : Nat) : ∀ (b : UInt8) (k : F) (a : Nat) (r : List UInt8) (w : World), k.size ≤ n → Is wide 0 b k → s.data.toList.drop a = tx b k ++ r →
    Calls Tryd.prog 31 #[.string s, .int .i64 (a : Int), env6 (env 0) (env 1) (env 2) (env 3) (env 4) (env 5)] w fun e w' => e = .returned (.tuple #[.int .i64 (val env b k), .int .i64 ((a : Int) + ((tx b k).length : Int))]) ∧ Below w.heap.size w w' := by
  induction n with
  | zero =>
    intro b k a r w hk hi hd
    rcases is_expr hi with ⟨rfl, hv⟩ | ⟨hv, ho, b1, k1, b2, k2, rfl, i1, i2⟩
    · obtain ⟨hlt, hb', hd1, hx⟩ := at_tx hd
      have hlt' : (a : Int) < s.size := by omega
      have hs' : (s.size : Int) ≤ 1000 := by omega
      cases hg : dgB b.toNat with
      | true =>
        have HV := Lib.hid (val_leaf_dig (env := env) hg .nil)
        have HF := Lib.hid (find_novar (b := s[a]) (by rw [hb']; exact vr_dig hg))
        simp only [dgB, Bool.and_eq_true, decide_eq_true_eq] at hg
        have k1 : (48 : Int) ≤ (s[a].toNat : Int) := by rw [hb']; omega
        have k2 : (s[a].toNat : Int) ≤ 50 := by rw [hb']; omega
        have HB := Lib.hid hb'
        clear hd hd1 hx hv hi hb' hg
        go_enter Tryd.func31, Tryd.ntmps31
        go_wp2_with (go_at_call 22; refine (libFind _ [120, 121, 122, 88, 89, 90] rfl s[a] _ (by decide)).mono ?_; rintro e w' ⟨rfl, rfl⟩; rw [HF.out])
        exact bodyPost_ret (v := .tuple #[.int .i64 ((s[a].toNat : Int) - 48), .int .i64 ((a : Int) + 1)]) (by simp [results, Tryd.results31, go_sem]) rfl ⟨by rw [HV.out, HB.out]; rfl, (Below.refl _ _).alloc (Nat.le_refl _) _⟩
      | false =>
        have HV := Lib.hid (val_leaf_var (env := env) hg)
        have hvr : vrB wide b.toNat = true := by rw [hg] at hv; simpa using hv
        have hs6 := slot_lt hvr
        have hff := find_var (b := s[a]) (by rw [hb']; exact hvr)
        rw [hb'] at hff
        obtain ⟨i, hi6⟩ : ∃ i, slotOf b.toNat = i := ⟨_, rfl⟩
        rw [hi6] at hff hs6 HV
        have HF := Lib.hid (show Lib.indexByte [120, 121, 122, 88, 89, 90] s[a] = (i : Int) by rw [hb']; exact hff)
        have hs6' : (i : Int) < 6 := by omega
        have hce : (w.alloc (.cells #[.int .i64 (env 0), .int .i64 (env 1), .int .i64 (env 2), .int .i64 (env 3), .int .i64 (env 4), .int .i64 (env 5)] 46)).cell? ⟨w.heap.size, i, none⟩ = some (.int .i64 (env i)) := by
          rw [cell_of_block (heap_alloc_new _ _) i]
          rcases (show i = 0 ∨ i = 1 ∨ i = 2 ∨ i = 3 ∨ i = 4 ∨ i = 5 by omega) with h | h | h | h | h | h <;> subst h <;> rfl
        clear hd hd1 hx hv hi hb' hg hvr hff hi6
        go_enter Tryd.func31, Tryd.ntmps31
        go_wp2_with (go_at_call 22; refine (libFind _ [120, 121, 122, 88, 89, 90] rfl s[a] _ (by decide)).mono ?_; rintro e w' ⟨rfl, rfl⟩; rw [HF.out])
        exact bodyPost_ret (v := .tuple #[.int .i64 (env i), .int .i64 ((a : Int) + 1)]) (by simp [results, Tryd.results31, go_sem]) rfl ⟨by rw [HV.out]; rfl, (Below.refl _ _).alloc (Nat.le_refl _) _⟩
    · simp [F.size] at hk
  | succ n ih =>
    intro b k a r w hk hi hd
    rcases is_expr hi with ⟨rfl, hv⟩ | ⟨hv, ho, b1, k1, b2, k2, rfl, i1, i2⟩
    · obtain ⟨hlt, hb', hd1, hx⟩ := at_tx hd
      have hlt' : (a : Int) < s.size := by omega
      have hs' : (s.size : Int) ≤ 1000 := by omega
      cases hg : dgB b.toNat with
      | true =>
        have HV := Lib.hid (val_leaf_dig (env := env) hg .nil)
        have HF := Lib.hid (find_novar (b := s[a]) (by rw [hb']; exact vr_dig hg))
        simp only [dgB, Bool.and_eq_true, decide_eq_true_eq] at hg
        have k1 : (48 : Int) ≤ (s[a].toNat : Int) := by rw [hb']; omega
        have k2 : (s[a].toNat : Int) ≤ 50 := by rw [hb']; omega
        have HB := Lib.hid hb'
        clear hd hd1 hx hv hi hb' hg
        go_enter Tryd.func31, Tryd.ntmps31
        go_wp2_with (go_at_call 22; refine (libFind _ [120, 121, 122, 88, 89, 90] rfl s[a] _ (by decide)).mono ?_; rintro e w' ⟨rfl, rfl⟩; rw [HF.out])
        exact bodyPost_ret (v := .tuple #[.int .i64 ((s[a].toNat : Int) - 48), .int .i64 ((a : Int) + 1)]) (by simp [results, Tryd.results31, go_sem]) rfl ⟨by rw [HV.out, HB.out]; rfl, (Below.refl _ _).alloc (Nat.le_refl _) _⟩
      | false =>
        have HV := Lib.hid (val_leaf_var (env := env) hg)
        have hvr : vrB wide b.toNat = true := by rw [hg] at hv; simpa using hv
        have hs6 := slot_lt hvr
        have hff := find_var (b := s[a]) (by rw [hb']; exact hvr)
        rw [hb'] at hff
        obtain ⟨i, hi6⟩ : ∃ i, slotOf b.toNat = i := ⟨_, rfl⟩
        rw [hi6] at hff hs6 HV
        have HF := Lib.hid (show Lib.indexByte [120, 121, 122, 88, 89, 90] s[a] = (i : Int) by rw [hb']; exact hff)
        have hs6' : (i : Int) < 6 := by omega
        have hce : (w.alloc (.cells #[.int .i64 (env 0), .int .i64 (env 1), .int .i64 (env 2), .int .i64 (env 3), .int .i64 (env 4), .int .i64 (env 5)] 46)).cell? ⟨w.heap.size, i, none⟩ = some (.int .i64 (env i)) := by
          rw [cell_of_block (heap_alloc_new _ _) i]
          rcases (show i = 0 ∨ i = 1 ∨ i = 2 ∨ i = 3 ∨ i = 4 ∨ i = 5 by omega) with h | h | h | h | h | h <;> subst h <;> rfl
        clear hd hd1 hx hv hi hb' hg hvr hff hi6
        go_enter Tryd.func31, Tryd.ntmps31
        go_wp2_with (go_at_call 22; refine (libFind _ [120, 121, 122, 88, 89, 90] rfl s[a] _ (by decide)).mono ?_; rintro e w' ⟨rfl, rfl⟩; rw [HF.out])
        exact bodyPost_ret (v := .tuple #[.int .i64 (env i), .int .i64 ((a : Int) + 1)]) (by simp [results, Tryd.results31, go_sem]) rfl ⟨by rw [HV.out]; rfl, (Below.refl _ _).alloc (Nat.le_refl _) _⟩
    · simp only [F.size] at hk
      have hfit := fits_tx hd
      obtain ⟨hlt, hb', hd1, hx⟩ := at_tx hd
      obtain ⟨e1, e2⟩ := at_two hd1
      have f1 := fits_tx e1
      have f2 := fits_tx e2
      have HF := Lib.hid (find_novar (b := s[a]) (by rw [hb']; exact vr_op ho))
      obtain ⟨n1, hn1⟩ : ∃ n1, (tx b1 k1).length = n1 := ⟨_, rfl⟩
      obtain ⟨n2, hn2⟩ : ∃ n2, (tx b2 k2).length = n2 := ⟨_, rfl⟩
      have IH1 := Lib.hid (fun w => ih b1 k1 (a + 1) _ w (by omega) i1 e1)
      have IH2 := Lib.hid (fun w => ih b2 k2 (a + 1 + (tx b1 k1).length) _ w (by omega) i2 e2)
      rw [hn1] at IH1 f1 IH2 f2
      rw [hn2] at IH2 f2
      rw [show ((a + 1 : Nat) : Int) = (a : Int) + 1 by omega] at IH1
      rw [show ((a + 1 + n1 : Nat) : Int) = (a : Int) + 1 + (n1 : Int) by omega] at IH2
      have HL := Lib.hid (show (((tx b (.node b1 k1 (.node b2 k2 .nil))).length : Nat) : Int) = 1 + (n1 : Int) + (n2 : Int) by rw [← hn1, ← hn2]; simp [tx, F.text]; omega)
      have HV := Lib.hid (val_two (env := env) ho b1 k1 b2 k2)
      have r1 := val_range env henv b1 k1
      have r2 := val_range env henv b2 k2
      generalize val env b1 k1 = v1 at IH1 HV r1
      generalize val env b2 k2 = v2 at IH2 HV r2
      have hlt' : (a : Int) < s.size := by omega
      have hs' : (s.size : Int) ≤ 1000 := by omega
      have f2' : (a : Int) + 1 + (n1 : Int) + (n2 : Int) ≤ s.size := by omega
      clear hd hd1 e1 e2 ih hi hv hn1 hn2 hfit hx
      rcases ho with hb | hb | hb
      · have k1' : (s[a].toNat : Int) < 48 := by rw [hb']; omega
        have g43 : ((s[a].toNat : Int) == 43) = true := by rw [hb']; simp; omega
        have g45 : ((s[a].toNat : Int) == 45) = false := by rw [hb']; simp; omega
        have g42 : ((s[a].toNat : Int) == 42) = false := by rw [hb']; simp; omega
        have HV' := Lib.hid (show val env b (.node b1 k1 (.node b2 k2 .nil)) = (v1 + v2) % 3 by rw [HV.out]; simp [hb])
        have ht : (v1 + v2).tmod 3 = (v1 + v2) % 3 := tmod3 (by omega)
        clear hb hb'
        go_enter Tryd.func31, Tryd.ntmps31
        go_wp2_with (go_at_call 22; refine (libFind _ [120, 121, 122, 88, 89, 90] rfl s[a] _ (by decide)).mono ?_; rintro e w' ⟨rfl, rfl⟩; rw [HF.out])
        refine (IH1.out _).mono ?_
        rintro e w1 ⟨rfl, hb1⟩
        obtain ⟨c0, c1, c2, c3, c4, c5, hb1'⟩ := env_after hb1
        go_wp2_with fail
        refine (IH2.out _).mono ?_
        rintro e w2 ⟨rfl, hb2⟩
        go_wp2_with fail
        exact bodyPost_ret (v := .tuple #[.int .i64 ((v1 + v2) % 3), .int .i64 ((a : Int) + 1 + (n1 : Int) + (n2 : Int))]) (by simp [results, Tryd.results31, go_sem]) rfl
          ⟨by rw [HV'.out, HL.out, show (a : Int) + (1 + (n1 : Int) + (n2 : Int)) = (a : Int) + 1 + (n1 : Int) + (n2 : Int) by omega], grew hb1' hb2⟩
      · have k1' : (s[a].toNat : Int) < 48 := by rw [hb']; omega
        have g43 : ((s[a].toNat : Int) == 43) = false := by rw [hb']; simp; omega
        have g45 : ((s[a].toNat : Int) == 45) = true := by rw [hb']; simp; omega
        have g42 : ((s[a].toNat : Int) == 42) = false := by rw [hb']; simp; omega
        have HV' := Lib.hid (show val env b (.node b1 k1 (.node b2 k2 .nil)) = (v1 - v2) % 3 by rw [HV.out]; simp [hb])
        have ht : (v1 - v2 + 3).tmod 3 = (v1 - v2 + 3) % 3 := tmod3 (by omega)
        clear hb hb'
        go_enter Tryd.func31, Tryd.ntmps31
        go_wp2_with (go_at_call 22; refine (libFind _ [120, 121, 122, 88, 89, 90] rfl s[a] _ (by decide)).mono ?_; rintro e w' ⟨rfl, rfl⟩; rw [HF.out])
        refine (IH1.out _).mono ?_
        rintro e w1 ⟨rfl, hb1⟩
        obtain ⟨c0, c1, c2, c3, c4, c5, hb1'⟩ := env_after hb1
        go_wp2_with fail
        refine (IH2.out _).mono ?_
        rintro e w2 ⟨rfl, hb2⟩
        go_wp2_with fail
        exact bodyPost_ret (v := .tuple #[.int .i64 ((v1 - v2) % 3), .int .i64 ((a : Int) + 1 + (n1 : Int) + (n2 : Int))]) (by simp [results, Tryd.results31, go_sem]) rfl
          ⟨by rw [HV'.out, HL.out, show (a : Int) + (1 + (n1 : Int) + (n2 : Int)) = (a : Int) + 1 + (n1 : Int) + (n2 : Int) by omega], grew hb1' hb2⟩
      · have k1' : (s[a].toNat : Int) < 48 := by rw [hb']; omega
        have g43 : ((s[a].toNat : Int) == 43) = false := by rw [hb']; simp; omega
        have g45 : ((s[a].toNat : Int) == 45) = false := by rw [hb']; simp; omega
        have g42 : ((s[a].toNat : Int) == 42) = true := by rw [hb']; simp; omega
        have HV' := Lib.hid (show val env b (.node b1 k1 (.node b2 k2 .nil)) = (v1 * v2) % 3 by rw [HV.out]; simp [hb])
        have m0 : 0 ≤ v1 * v2 ∧ v1 * v2 ≤ 4 := by
          have e1 : v1 = 0 ∨ v1 = 1 ∨ v1 = 2 := by omega
          have e2 : v2 = 0 ∨ v2 = 1 ∨ v2 = 2 := by omega
          rcases e1 with e | e | e <;> rcases e2 with e' | e' | e' <;> subst e <;> subst e' <;> decide
        have ht : (v1 * v2).tmod 3 = (v1 * v2) % 3 := tmod3 (by omega)
        clear hb hb'
        go_enter Tryd.func31, Tryd.ntmps31
        go_wp2_with (go_at_call 22; refine (libFind _ [120, 121, 122, 88, 89, 90] rfl s[a] _ (by decide)).mono ?_; rintro e w' ⟨rfl, rfl⟩; rw [HF.out])
        refine (IH1.out _).mono ?_
        rintro e w1 ⟨rfl, hb1⟩
        obtain ⟨c0, c1, c2, c3, c4, c5, hb1'⟩ := env_after hb1
        go_wp2_with fail
        refine (IH2.out _).mono ?_
        rintro e w2 ⟨rfl, hb2⟩
        go_wp2_with fail
        exact bodyPost_ret (v := .tuple #[.int .i64 ((v1 * v2) % 3), .int .i64 ((a : Int) + 1 + (n1 : Int) + (n2 : Int))]) (by simp [results, Tryd.results31, go_sem]) rfl
          ⟨by rw [HV'.out, HL.out, show (a : Int) + (1 + (n1 : Int) + (n2 : Int)) = (a : Int) + 1 + (n1 : Int) + (n2 : Int) by omega], grew hb1' hb2⟩
end Go.Proofs.YtaimlfhbcgocnaaDoor.Vl
