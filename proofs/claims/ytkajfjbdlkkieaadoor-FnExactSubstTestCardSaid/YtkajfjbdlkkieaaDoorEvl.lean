/- Contracts and law: EvalExpr. -/
import Derived.Test.YtkajfjbdlkkieaaDoorVal
namespace Go.Proofs.YtkajfjbdlkkieaaDoor.El
open Go.RowKit Go.Deep Go.Proofs.YtkajfjbdlkkieaaDoor.Pl Go.Proofs.YtkajfjbdlkkieaaDoor.Bi Go.Proofs.YtkajfjbdlkkieaaDoor.Fi Go.Proofs.YtkajfjbdlkkieaaDoor.Ed Go.Proofs.YtkajfjbdlkkieaaDoor.Ps Go.Proofs.YtkajfjbdlkkieaaDoor.Sw Go.Proofs.YtkajfjbdlkkieaaDoor.St Go.Proofs.YtkajfjbdlkkieaaDoor.En Go.Proofs.YtkajfjbdlkkieaaDoor.Vl
set_option linter.unusedVariables false

def ev3 (x y z : Int) : Nat → Int := fun i => if i = 0 then x else if i = 1 then y else if i = 2 then z else 0
theorem ev3_rng {x y z : Int} (h : stB x y z = true) : rng (ev3 x y z) := by
  have := of_stB h
  intro i
  unfold ev3
  (repeat' split) <;> omega
/-- The value, where there is one. -/
def evB (s : ByteArray) (x y z : Int) : Option Int := if okS false 0 200 s && stB x y z then (match P false [0] s.data.toList with | some (.node b k _, _) => some (val (ev3 x y z) b k) | _ => none) else none
def evV : Option Int → Value
  | none => .tuple #[.int .i64 0, .bool false]
  | some v => .tuple #[.int .i64 v, .bool true]
theorem evB_is {b : UInt8} {k : F} {x y z : Int} (hi : Is false 0 b k) (hok : okS false 0 200 (bs (tx b k)) = true) (hst : stB x y z = true) : evB (bs (tx b k)) x y z = some (val (ev3 x y z) b k) := by
  have := P_is hi []
  rw [List.append_nil] at this
  simp only [evB, hok, hst, bs_list, this]; rfl
theorem evB_bad {s : ByteArray} {x y z : Int} (h : okS false 0 200 s = false) : evB s x y z = none := by simp [evB, h]
theorem evB_out {s : ByteArray} {x y z : Int} (h : stB x y z = false) : evB s x y z = none := by simp [evB, h]
theorem box_aft {w w1 : World} {t : TypeId} {x y z : Int} (h : Below (box w t x y z).heap.size (box w t x y z) w1) :
    w1.cell? ⟨w.heap.size, 0, none⟩ = some (.int .i64 x) ∧ w1.cell? ⟨w.heap.size, 1, none⟩ = some (.int .i64 y) ∧ w1.cell? ⟨w.heap.size, 2, none⟩ = some (.int .i64 z) ∧ Below w.heap.size w w1 ∧ w.heap.size < w1.heap.size := by
  have hn := heap_alloc_new w (.cells #[.int .i64 x, .int .i64 y, .int .i64 z] t)
  have hl := lt_of_block hn
  have hb : w1.heap[w.heap.size]? = some (.cells #[.int .i64 x, .int .i64 y, .int .i64 z] t) := by rw [h.block _ hl]; exact hn
  exact ⟨cell_of_block hb 0, cell_of_block hb 1, cell_of_block hb 2, ((Below.refl _ _).alloc (Nat.le_refl _) _).trans (h.mono (by simp)), lt_of_block hb⟩

/-- The law's own copy of the state, behind calls that only laid blocks. -/
theorem law_box {w W w1 : World} {t : TypeId} {x y z : Int} (hb : Below W.heap.size W w1) (hW : Below (w.heap.size + 1) (box w t x y z) W) :
    w1.cell? ⟨w.heap.size, 0, none⟩ = some (.int .i64 x) ∧ w1.cell? ⟨w.heap.size, 1, none⟩ = some (.int .i64 y) ∧ w1.cell? ⟨w.heap.size, 2, none⟩ = some (.int .i64 z) ∧ w.heap.size < w1.heap.size := by
  have s0 := hW.size
  have h : Below (box w t x y z).heap.size (box w t x y z) w1 := by
    have hz : (box w t x y z).heap.size = w.heap.size + 1 := by simp
    rw [hz]
    exact hW.trans (hb.mono (by rw [← hz]; exact s0))
  obtain ⟨c0, c1, c2, _, hl⟩ := box_aft h
  exact ⟨c0, c1, c2, hl⟩
theorem law_end {w W1 w1 W2 w2 : World} (h1 : Below W1.heap.size W1 w1) (h2 : Below W2.heap.size W2 w2) (k1 : Below w.heap.size w W1) (k2 : Below w1.heap.size w1 W2) : Below w.heap.size w w2 :=
  grew (grew k1 h1) (grew k2 h2)
theorem implEnvOf (x y z a b c : Int) (w : World) : Calls Tryd.prog 43 #[.agg #[.int .i64 x, .int .i64 y, .int .i64 z], .agg #[.int .i64 a, .int .i64 b, .int .i64 c]] w fun e w' => e = .returned (env6 x y z a b c) ∧ Below w.heap.size w w' := by
  go_enter Tryd.func43, Tryd.ntmps43
  go_wp2
  exact bodyPost_ret (v := env6 x y z a b c) (by simp [results, Tryd.results43, go_sem]) rfl ⟨rfl, by repeat (first | exact Below.refl _ _ | refine Below.alloc ?_ (by simp <;> omega) _)⟩
end Go.Proofs.YtkajfjbdlkkieaaDoor.El
