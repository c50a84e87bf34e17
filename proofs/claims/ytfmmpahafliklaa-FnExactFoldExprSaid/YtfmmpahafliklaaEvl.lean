/- Contracts and law: EvalExpr. -/
import Derived.Test.YtfmmpahafliklaaVal
namespace Go.Proofs.Ytfmmpahafliklaa.El
open Go.RowKit Go.Deep Go.Proofs.Ytfmmpahafliklaa.Pl Go.Proofs.Ytfmmpahafliklaa.Bi Go.Proofs.Ytfmmpahafliklaa.Fi Go.Proofs.Ytfmmpahafliklaa.Ed Go.Proofs.Ytfmmpahafliklaa.Ps Go.Proofs.Ytfmmpahafliklaa.Sw Go.Proofs.Ytfmmpahafliklaa.St Go.Proofs.Ytfmmpahafliklaa.En Go.Proofs.Ytfmmpahafliklaa.Vl
set_option linter.unusedVariables false

def ev3 (x y z : Int) : Nat → Int := fun i => if i = 0 then x else if i = 1 then y else if i = 2 then z else 0
theorem ev3_rng {x y z : Int} (h : stB x y z = true) : rng (ev3 x y z) := by
  have := of_stB h
  intro i
  unfold ev3
  (repeat' split) <;> omega
/-- The value, where there is one. -/
def evB (s : ByteArray) (x y z : Int) : Option Int := if okS false 0 200 s && stB x y z then (match P false [0] s.data.toList with | some (.node b k _, _) => some (val (ev3 x y z) b k) | _ => none) else none
def evV : Option Int → Value
  | none => .tuple #[.int .i64 0, .bool false]
  | some v => .tuple #[.int .i64 v, .bool true]
theorem evB_is {b : UInt8} {k : F} {x y z : Int} (hi : Is false 0 b k) (hok : okS false 0 200 (bs (tx b k)) = true) (hst : stB x y z = true) : evB (bs (tx b k)) x y z = some (val (ev3 x y z) b k) := by
  have := P_is hi []
  rw [List.append_nil] at this
  simp only [evB, hok, hst, bs_list, this]; rfl
theorem evB_bad {s : ByteArray} {x y z : Int} (h : okS false 0 200 s = false) : evB s x y z = none := by simp [evB, h]
theorem evB_out {s : ByteArray} {x y z : Int} (h : stB x y z = false) : evB s x y z = none := by simp [evB, h]
theorem box_aft {w w1 : World} {t : TypeId} {x y z : Int} (h : Below (box w t x y z).heap.size (box w t x y z) w1) :
    w1.cell? ⟨w.heap.size, 0, none⟩ = some (.int .i64 x) ∧ w1.cell? ⟨w.heap.size, 1, none⟩ = some (.int .i64 y) ∧ w1.cell? ⟨w.heap.size, 2, none⟩ = some (.int .i64 z) ∧ Below w.heap.size w w1 ∧ w.heap.size < w1.heap.size := by
  have hn := heap_alloc_new w (.cells #[.int .i64 x, .int .i64 y, .int .i64 z] t)
  have hl := lt_of_block hn
  have hb : w1.heap[w.heap.size]? = some (.cells #[.int .i64 x, .int .i64 y, .int .i64 z] t) := by rw [h.block _ hl]; exact hn
  exact ⟨cell_of_block hb 0, cell_of_block hb 1, cell_of_block hb 2, ((Below.refl _ _).alloc (Nat.le_refl _) _).trans (h.mono (by simp)), lt_of_block hb⟩

/-- The law's own copy of the state, behind calls that only laid blocks. -/
theorem law_box {w W w1 : World} {t : TypeId} {x y z : Int} (hb : Below W.heap.size W w1) (hW : Below (w.heap.size + 1) (box w t x y z) W) :
    w1.cell? ⟨w.heap.size, 0, none⟩ = some (.int .i64 x) ∧ w1.cell? ⟨w.heap.size, 1, none⟩ = some (.int .i64 y) ∧ w1.cell? ⟨w.heap.size, 2, none⟩ = some (.int .i64 z) ∧ w.heap.size < w1.heap.size := by
  have s0 := hW.size
  have h : Below (box w t x y z).heap.size (box w t x y z) w1 := by
    have hz : (box w t x y z).heap.size = w.heap.size + 1 := by simp
    rw [hz]
    exact hW.trans (hb.mono (by rw [← hz]; exact s0))
  obtain ⟨c0, c1, c2, _, hl⟩ := box_aft h
  exact ⟨c0, c1, c2, hl⟩
theorem law_end {w W1 w1 W2 w2 : World} (h1 : Below W1.heap.size W1 w1) (h2 : Below W2.heap.size W2 w2) (k1 : Below w.heap.size w W1) (k2 : Below w1.heap.size w1 W2) : Below w.heap.size w w2 :=
  grew (grew k1 h1) (grew k2 h2)
theorem implEnvOf (x y z a b c : Int) (w : World) : Calls Try.prog 56 #[.agg #[.int .i64 x, .int .i64 y, .int .i64 z], .agg #[.int .i64 a, .int .i64 b, .int .i64 c]] w fun e w' => e = .returned (env6 x y z a b c) ∧ Below w.heap.size w w' := by
  go_enter Try.func56, Try.ntmps56
  go_wp2
  exact bodyPost_ret (v := env6 x y z a b c) (by simp [results, Try.results56, go_sem]) rfl ⟨rfl, by repeat (first | exact Below.refl _ _ | refine Below.alloc ?_ (by simp <;> omega) _)⟩
set_option maxHeartbeats 4000000 in
theorem implEvalExpr (s : ByteArray) (x y z : Int) (w : World) (hs : s.size ≤ 1048576) :
    Calls Try.prog 33 #[.string s, .agg #[.int .i64 x, .int .i64 y, .int .i64 z]] w fun e w' => e = .returned (evV (evB s x y z)) ∧ Below w.heap.size w w' := by
  have hp := Lib.hid (fun w => implParseExpr s w hs)
  go_enter Try.func33, Try.ntmps33
  go_wp2_with fail
  refine (hp.out _).mono ?_
  rintro e w1 (⟨h, rfl, hb⟩ | ⟨b, k, p, h, hi, rfl, rfl, hT, hb⟩)
  · have H := Lib.hid (evB_bad (x := x) (y := y) (z := z) h)
    obtain ⟨c0, c1, c2, hb', hz⟩ := box_aft hb
    clear h
    go_wp2_with fail
    exact bodyPost_ret (v := .tuple #[.int .i64 0, .bool false]) (by simp [results, Try.results33, go_sem]) rfl ⟨by rw [H.out]; rfl, hb'⟩
  · obtain ⟨c0, c1, c2, hb', hz⟩ := box_aft hb
    cases hst : stB x y z with
    | false =>
      have H := Lib.hid (evB_out (s := bs (tx b k)) hst)
      have HST := Lib.hid hst
      clear h hT hst
      go_wp2_with (go_at_call 55; refine (implStateValid _ _ _ _).mono ?_; rintro e w2 ⟨rfl, rfl⟩; rw [HST.out])
      exact bodyPost_ret (v := .tuple #[.int .i64 0, .bool false]) (by simp [results, Try.results33, go_sem]) rfl ⟨by rw [H.out]; rfl, grew hb' (by repeat (first | exact Below.refl _ _ | refine Below.alloc ?_ (by simp <;> omega) _))⟩
    | true =>
      have H := Lib.hid (evB_is hi h hst)
      have HST := Lib.hid hst
      have HR := Lib.hid (ev3_rng hst)
      have HT := Lib.hid hT
      clear h hT hst
      go_wp2_with (first
        | (go_at_call 55; refine (implStateValid _ _ _ _).mono ?_; rintro e w2 ⟨rfl, rfl⟩; rw [HST.out])
        | (go_at_call 56; refine (implEnvOf _ _ _ _ _ _ _).mono ?_; rintro e w3 ⟨rfl, hb3⟩))
      have k1 := grewA (grew (w := w1) (w1 := box w1 31 x y z) (by repeat (first | exact Below.refl _ _ | refine Below.alloc ?_ (by simp <;> omega) _)) hb3) (.cells #[.int .i64 x, .int .i64 y, .int .i64 z, .int .i64 0, .int .i64 0, .int .i64 0] 49)
      have HC := Lib.hid (implValue false (ev3 x y z) HR.out w3.heap.size k.size b k p _ (Nat.le_refl _) hi (isT_below k1 HT.out) (by
        intro i hi6
        rw [cell_of_block (heap_alloc_new _ _) i]
        rcases (show i = 0 ∨ i = 1 ∨ i = 2 ∨ i = 3 ∨ i = 4 ∨ i = 5 by omega) with h | h | h | h | h | h <;> subst h <;> rfl))
      refine (HC.out).mono ?_
      rintro e w4 ⟨rfl, m, rfl⟩
      go_wp2_with fail
      exact bodyPost_ret (v := .tuple #[.int .i64 (val (ev3 x y z) b k), .bool true]) (by simp [results, Try.results33, go_sem]) rfl ⟨by rw [H.out]; rfl, grew hb' (below_drewN k1 m)⟩
set_option maxHeartbeats 4000000 in
theorem specEvalExpr (s : ByteArray) (x y z : Int) (w : World) (hs : s.size ≤ 1048576) :
    Calls Try.prog 31 #[.string s, .agg #[.int .i64 x, .int .i64 y, .int .i64 z]] w fun e w' => e = .returned (evV (evB s x y z)) ∧ Below w.heap.size w w' := by
  have hv := Lib.hid (fun w => specExprValid s w hs)
  cases h : okS false 0 200 s with
  | false =>
    have H := Lib.hid (evB_bad (x := x) (y := y) (z := z) h)
    rw [h] at hv
    clear h
    go_enter Try.func31, Try.ntmps31
    go_wp2_with fail
    refine (hv.out _).mono ?_
    rintro e w1 ⟨rfl, hb⟩
    obtain ⟨c0, c1, c2, hb', hz⟩ := box_aft hb
    go_wp2_with fail
    exact bodyPost_ret (v := .tuple #[.int .i64 0, .bool false]) (by simp [results, Try.results31, go_sem]) rfl ⟨by rw [H.out]; rfl, hb'⟩
  | true =>
    obtain ⟨hl, b, k, hi, rfl⟩ := okS_is h
    cases hst : stB x y z with
    | false =>
      have H := Lib.hid (evB_out (s := bs (tx b k)) hst)
      have HST := Lib.hid hst
      rw [h] at hv
      clear h hst
      go_enter Try.func31, Try.ntmps31
      go_wp2_with fail
      refine (hv.out _).mono ?_
      rintro e w1 ⟨rfl, hb⟩
      obtain ⟨c0, c1, c2, hb', hz⟩ := box_aft hb
      go_wp2_with (go_at_call 52; refine (specStateValid _ _ _ _).mono ?_; rintro e w2 ⟨rfl, rfl⟩; rw [HST.out])
      exact bodyPost_ret (v := .tuple #[.int .i64 0, .bool false]) (by simp [results, Try.results31, go_sem]) rfl ⟨by rw [H.out]; rfl, grew hb' (by repeat (first | exact Below.refl _ _ | refine Below.alloc ?_ (by simp <;> omega) _))⟩
    | true =>
      have H := Lib.hid (evB_is hi h hst)
      have HST := Lib.hid hst
      have HC := Lib.hid (fun w => specValue (bs (tx b k)) (by omega) false (ev3 x y z) (ev3_rng hst) k.size b k 0 [] w (Nat.le_refl _) hi (by rw [bs_list]; simp))
      rw [h] at hv
      clear h hst
      go_enter Try.func31, Try.ntmps31
      go_wp2_with fail
      refine (hv.out _).mono ?_
      rintro e w1 ⟨rfl, hb⟩
      obtain ⟨c0, c1, c2, hb', hz⟩ := box_aft hb
      go_wp2_with (first
        | (go_at_call 52; refine (specStateValid _ _ _ _).mono ?_; rintro e w2 ⟨rfl, rfl⟩; rw [HST.out])
        | (go_at_call 54; refine (specOne _ _ _ _).mono ?_; rintro e w3 ⟨rfl, rfl⟩))
      refine (HC.out _).mono ?_
      rintro e w4 ⟨rfl, hb4⟩
      go_wp2_with fail
      exact bodyPost_ret (v := .tuple #[.int .i64 (val (ev3 x y z) b k), .bool true]) (by simp [results, Try.results31, go_sem]) rfl ⟨by rw [H.out]; rfl, grew hb' (grew (by repeat (first | exact Below.refl _ _ | refine Below.alloc ?_ (by simp <;> omega) _)) hb4)⟩
set_option maxHeartbeats 4000000 in
theorem lawEvalExpr (s : ByteArray) (x y z : Int) (w : World) (hs : s.size ≤ maxLen) (wx : (Lit.int .i64 x).wf = true) (wy : (Lit.int .i64 y).wf = true) (wz : (Lit.int .i64 z).wf = true) :
    Calls Try.prog 11 #[.string s, .agg #[.int .i64 x, .int .i64 y, .int .i64 z]] w fun e w' => e = .returned (.bool true) ∧ Below w.heap.size w w' := by
  by_cases hbig : s.size ≤ 1048576
  · have h1 : (s.size : Int) ≤ 1048576 := by omega
    have HA := Lib.hid (fun w => specEvalExpr s x y z w hbig)
    have HB := Lib.hid (fun w => implEvalExpr s x y z w hbig)
    cases h : evB s x y z with
    | none =>
      rw [h] at HA HB
      simp only [evV] at HA HB
      clear h
      go_enter Try.func11, Try.ntmps11
      go_wp2_with (first
        | (go_at_call 32; refine (toState _ _ _ _).mono ?_; rintro e w' ⟨rfl, rfl⟩)
        | (go_at_call 31; refine (HA.out _).mono ?_; rintro e w1 ⟨rfl, hb1⟩; have cb := law_box (w := w) (t := 28) (x := x) (y := y) (z := z) hb1 (by repeat (first | exact Below.refl _ _ | refine Below.alloc ?_ (by simp <;> omega) _)))
        | (go_at_call 33; refine (HB.out _).mono ?_; rintro e w2 ⟨rfl, hb2⟩))
      go_ret
      exact ⟨rfl, law_end hb1 hb2 (by repeat (first | exact Below.refl _ _ | refine Below.alloc ?_ (by simp <;> omega) _)) (by repeat (first | exact Below.refl _ _ | refine Below.alloc ?_ (by simp <;> omega) _))⟩
    | some v =>
      rw [h] at HA HB
      simp only [evV] at HA HB
      clear h
      go_enter Try.func11, Try.ntmps11
      go_wp2_with (first
        | (go_at_call 32; refine (toState _ _ _ _).mono ?_; rintro e w' ⟨rfl, rfl⟩)
        | (go_at_call 31; refine (HA.out _).mono ?_; rintro e w1 ⟨rfl, hb1⟩; have cb := law_box (w := w) (t := 28) (x := x) (y := y) (z := z) hb1 (by repeat (first | exact Below.refl _ _ | refine Below.alloc ?_ (by simp <;> omega) _)))
        | (go_at_call 33; refine (HB.out _).mono ?_; rintro e w2 ⟨rfl, hb2⟩))
      go_ret
      exact ⟨rfl, law_end hb1 hb2 (by repeat (first | exact Below.refl _ _ | refine Below.alloc ?_ (by simp <;> omega) _)) (by repeat (first | exact Below.refl _ _ | refine Below.alloc ?_ (by simp <;> omega) _))⟩
  · have h1 : (1048576 : Int) < (s.size : Int) := by omega
    go_enter Try.func11, Try.ntmps11
    go_wp2_with fail
    go_ret
    exact ⟨rfl, by repeat (first | exact Below.refl _ _ | refine Below.alloc ?_ (by simp <;> omega) _)⟩
end Go.Proofs.Ytfmmpahafliklaa.El
