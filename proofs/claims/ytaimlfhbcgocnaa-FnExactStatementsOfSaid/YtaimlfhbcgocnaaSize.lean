/- Contracts and laws: SizeOf, DepthOf. -/
import Derived.Test.YtaimlfhbcgocnaaEach
namespace Go.Proofs.Ytaimlfhbcgocnaa.Sz
open Go.RowKit Go.Deep Go.Proofs.Ytaimlfhbcgocnaa.Pl Go.Proofs.Ytaimlfhbcgocnaa.Bi Go.Proofs.Ytaimlfhbcgocnaa.Fi Go.Proofs.Ytaimlfhbcgocnaa.Ed Go.Proofs.Ytaimlfhbcgocnaa.Ps Go.Proofs.Ytaimlfhbcgocnaa.Sw Go.Proofs.Ytaimlfhbcgocnaa.Hd Go.Proofs.Ytaimlfhbcgocnaa.Pp Go.Proofs.Ytaimlfhbcgocnaa.Ea
set_option linter.unusedVariables false

/-- What is told of a program's tree, and of a text that is none. -/
def progV {α : Type} (wide : Bool) (most : Nat) (f : UInt8 → F → α) (d : α) (s : ByteArray) : α := if okS wide 2 most s then (match P wide [2] s.data.toList with | some (.node b k _, _) => f b k | _ => d) else d
theorem progV_is {α : Type} {wide : Bool} {most : Nat} (f : UInt8 → F → α) (d : α) {b : UInt8} {k : F} (hi : Is wide 2 b k) (hok : okS wide 2 most (bs (tx b k)) = true) : progV wide most f d (bs (tx b k)) = f b k := by
  have := P_is hi []
  rw [List.append_nil] at this
  simp only [progV, hok, bs_list, this]; rfl
theorem progV_no {α : Type} {wide : Bool} {most : Nat} (f : UInt8 → F → α) (d : α) {s : ByteArray} (hok : okS wide 2 most s = false) : progV wide most f d s = d := by simp [progV, hok]
/-- A number in a block of its own: so many statements were seen. -/
def cnt (N : Nat) (f : UInt8 × F → Bool) (done : List (UInt8 × F)) (w : World) : Prop := w.cell? ⟨N, 0, none⟩ = some (.int .i64 ((done.filter f).length : Int)) ∧ w.frozen? ⟨N, 0, none⟩ = false ∧ N < w.heap.size
theorem cnt_set {N : Nat} {f : UInt8 × F → Bool} {done : List (UInt8 × F)} {w : World} {x : UInt8 × F} (h : cnt N f done w) {n : Int} (hn : n = ((done.filter f).length : Int) + 1) (hx : f x = true) : cnt N f (done ++ [x]) (w.setCell ⟨N, 0, none⟩ (.int .i64 n)) := by
  refine ⟨?_, ?_, ?_⟩
  · rw [World.cell?_setCell_same _ _ _ h.1, hn, List.filter_append]
    simp [hx]
  · rw [World.frozen?_setCell]; exact h.2.1
  · rw [size_set]; exact h.2.2
theorem cnt_new (f : UInt8 × F → Bool) (w : World) (t : TypeId) : cnt w.heap.size f [] (w.alloc (.cells #[.int .i64 0] t)) :=
  ⟨(World.cell?_alloc_at _ _ _ 0 rfl).trans rfl, by unfold World.frozen?; rw [blk_alloc_new]; rfl, by simp⟩
theorem filter_all : ∀ l : List (UInt8 × F), (l.filter fun _ => true) = l
  | [] => rfl
  | a :: l => by simp
theorem tx_size (b : UInt8) (k : F) : (tx b k).length = k.size + 1 := by rw [tx_len, F.length_text]
/-- What the function answers. -/
def sizeV (s : ByteArray) : Int := progV false 200 (fun b k => ((pre b k).length : Int)) (-1) s
end Go.Proofs.Ytaimlfhbcgocnaa.Sz
